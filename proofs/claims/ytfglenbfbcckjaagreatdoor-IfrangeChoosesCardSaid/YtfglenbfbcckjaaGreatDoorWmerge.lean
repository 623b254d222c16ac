/- Layer 6 (spans made one): walks. -/
import Derived.Test.YtfglenbfbcckjaaGreatDoorWclash
import Derived.Test.YtfglenbfbcckjaaGreatDoorE15
import Derived.Test.YtfglenbfbcckjaaGreatDoorLay9
set_option linter.unusedSimpArgs false
set_option linter.unusedVariables false
set_option maxRecDepth 20000
namespace Go.Proofs.YtfglenbfbcckjaaGreatDoor
open Go.Sp
attribute [local irreducible] Go.Sp.Pr Go.Sp.Ws Go.Sp.Wl Go.Sp.Wq Go.Sp.Rds Go.Sp.Src
theorem flat_esn (l : List N2) : (∀ x ∈ l, (esn x).length = 2) := fun _ _ => rfl
theorem ones_esn (l : List N2) : (l.map esn).flatten.all (·.oneCell') = true := by
  induction l with
  | nil => rfl
  | cons x l ih => simp only [List.map_cons, List.flatten_cons, List.all_append, ih, Bool.and_true]; rfl
theorem clone_sp {σ : Stb} {A : Option Addr} {n cc : Nat} {b : List N2} (hS : Sl σ 2 esn (.slice A n cc) b) (hb : b.length ≤ 1000000) :
    Sp1 Tryz.prog 23 [.slice A n cc] σ fun v _ r => ∃ A' c', v = .slice A' b.length c' ∧ r = own 2 esn 32 v b := by
  have hn := hS.len
  subst hn
  refine sp1 Tryz.func23 rfl (by kernel_rfl) rfl fun F => ?_
  refine t_seq ?_
  refine t_region ?_
  refine l_p rfl rfl (p_assign rfl) ?_
  refine l_nil ?_
  refine t_seq ?_
  refine t_seq ?_
  refine t_region ?_
  refine l_p rfl rfl (p_move rfl) ?_
  refine l_p rfl rfl (p_slnil (by exact rfl) (by exact rfl)) ?_
  refine l_nil ?_
  refine t_if rfl (fun h => ?_) (fun h => ?_)
  · refine t_seq ?_
    refine t_region ?_
    refine l_p rfl rfl (p_assign rfl) ?_
    refine l_nil ?_
    have hA : A = none := by simpa using h
    obtain ⟨h1, h2⟩ := hS.of_none hA
    subst h1
    exact t_ret1 rfl rfl fun w hI => ⟨σ, _, .refl σ, ⟨none, 0, rfl, rfl⟩, hI.own0 ..⟩
  · refine t_skip ?_
    refine t_seq ?_
    refine t_region ?_
    refine l_bsl (by exact rfl) (by exact rfl) (by exact rfl) (by exact rfl) (by exact rfl) (by exact rfl) (by exact rfl) ?_; intro _
    refine l_p rfl rfl (p_move rfl) ?_
    refine l_ownb 2 esn ([] : List N2) 0 (by with_reducible first | exact .z | exact .s .z | exact .s (.s .z) | exact .s (.s (.s .z)) | exact .s (.s (.s (.s .z))) | exact .s (.s (.s (.s (.s .z))))) rfl (by exact rfl) (by simp) (by simp) ?_
    refine l_app (xs := ([] : List N2)) (enc := esn) b rfl rfl rfl rfl .z (Src.sl hS) rfl rfl (by exact rfl) (flat_esn b) (ones_esn b) (by simp; omega) (by simp; omega) fun A' c' => ?_
    refine l_p rfl rfl (p_assign rfl) ?_
    refine l_nil ?_
    simp only [List.length_nil, Nat.zero_add, List.nil_append]
    exact t_ret1 rfl rfl fun w hI => ⟨σ, _, .refl σ, ⟨A', c', rfl, rfl⟩, hI⟩
theorem notright (σ : Stb) (a b : Nat) : SpV Tryz.prog 37 [.agg #[i64 a, i64 b]] σ (.bool (!rightN (a, b))) := by
  refine spv Tryz.func37 rfl (by kernel_rfl) rfl fun F => ?_
  refine t_seq ?_
  refine t_region ?_
  refine l_box rfl rfl rfl rfl ?_; intro _
  refine l_p rfl rfl (p_assign rfl) ?_
  refine l_nil ?_
  refine t_seq ?_
  refine t_region ?_
  refine l_p rfl rfl (p_ldn (by exact rfl) Rds.bxi (by exact rfl) (by exact rfl)) ?_
  refine l_callv rfl rfl rfl (spright σ _ _) ?_
  refine l_p rfl rfl (p_not rfl) ?_
  refine l_p rfl rfl (p_assign rfl) ?_
  refine l_nil ?_
  exact t_ret1 rfl rfl fun w hI => ⟨rfl, hI.tail⟩
theorem cmpfrom (σ : Stb) (a a' b b' : Nat) (ha : a ≤ 4611686018427387903) (hb : b ≤ 4611686018427387903) : SpV Tryz.prog 39 [.agg #[i64 a, i64 a'], .agg #[i64 b, i64 b']] σ (i64 ((a : Int) - b)) := by
  refine spv Tryz.func39 rfl (by kernel_rfl) rfl fun F => ?_
  refine t_seq ?_
  refine t_region ?_
  refine l_box rfl rfl rfl rfl ?_; intro _
  refine l_box rfl rfl rfl rfl ?_; intro _
  refine l_p rfl rfl (p_assign rfl) ?_
  refine l_nil ?_
  refine t_seq ?_
  refine t_region ?_
  refine l_p rfl rfl (p_fa (by exact rfl) Rds.bxi) ?_
  refine l_p rfl rfl (p_ld1 (by exact rfl) Rds.bxi) ?_
  refine l_p rfl rfl (p_fa (by exact rfl) Rds.bxi) ?_
  refine l_p rfl rfl (p_ld1 (by exact rfl) Rds.bxi) ?_
  refine l_p rfl rfl (p_sub rfl rfl (by omega)) ?_
  refine l_p rfl rfl (p_assign rfl) ?_
  refine l_nil ?_
  exact t_ret1 rfl rfl fun w hI => ⟨rfl, hI.tail.tail⟩
theorem delete_none {σ : Stb} {L : List Res} {A : Option Addr} {cc : Nat} {l : List N2} (hl : l.length ≤ 1000000) (hR : Rdb σ L 2 esn (.slice A l.length cc) l) (hr : ∀ x ∈ l, rightN x = true) :
    SpL Tryz.prog 36 [.slice A l.length cc, .func (.func 37) ⟨[]⟩ ⟨[]⟩] σ L (.slice A l.length cc) := by
  refine spL Tryz.func36 rfl (by kernel_rfl) rfl ?_
  have e : idxI (fun x => !rightN x) l = -1 := by
    have ha : l.any (fun x => !rightN x) = false := by
      rw [List.any_eq_false]
      intro x hx
      simp [hr x hx]
    rw [idxI, if_neg (by rw [ha]; simp)]
  have hi := indexfunc (cs := []) (p := fun x => !rightN x) hl hR (fun x hx => notright σ x.1 x.2)
  rw [e] at hi
  refine t_seq ?_
  refine t_region ?_
  refine l_p rfl rfl (p_assign rfl) ?_
  refine l_nil ?_
  refine t_seq ?_
  refine t_region ?_
  refine l_p rfl rfl (p_move rfl) ?_
  refine l_p rfl rfl (p_move rfl) ?_
  refine l_callL rfl rfl rfl hi ?_
  refine l_p rfl rfl (p_assign rfl) ?_
  refine l_nil ?_
  refine t_seq ?_
  refine t_seq ?_
  refine t_region ?_
  refine l_p rfl rfl (p_move rfl) ?_
  refine l_p rfl rfl (p_eq rfl rfl) ?_
  refine l_nil ?_
  refine t_ift rfl ?_
  refine t_seq ?_
  refine t_region ?_
  refine l_p rfl rfl (p_move rfl) ?_
  refine l_p rfl rfl (p_assign rfl) ?_
  refine l_nil ?_
  exact t_ret1 rfl rfl fun w hI => ⟨rfl, hI⟩
theorem sortfunc {σ : Stb} {A : Option Addr} {cc : Nat} {l : List N2} (hl : l.length ≤ 1000000) (hr : ∀ x ∈ l, rightN x = true) :
    Sq1 Tryz.prog 38 [.slice A l.length cc, .func (.func 39) ⟨[]⟩ ⟨[]⟩] σ (own 2 esn 32 (.slice A l.length cc) l) fun v σ' r => v = .tuple #[] ∧ σ' = σ ∧ ∃ l' : List N2, l'.Perm l ∧ l'.Pairwise (fun x y => x.1 ≤ y.1) ∧ r = own 2 esn 32 (.slice A l.length cc) l' := by
  have hlt : ∀ x y : N2, ltOf (fun x y : N2 => (x.1 : Int) - y.1) x y = decide (x.1 < y.1) := fun x y => by
    unfold ltOf
    rw [Bool.eq_iff_iff]; simp; omega
  have hb0 : ∀ x : N2, rightN x = true → x.1 ≤ 4611686018427387903 := fun x hx => by simp [rightN] at hx; omega
  have h := sort_func (α := N2) (E := 32) (A := A) (cc := cc) (σ := σ) (cb := []) (g := 39) Tryz.sortSpan (k := 2) (hT := (inferInstance : TI Tryz.prog 32 true 2)) (enc := esn) (fun _ => rfl) (fun x v hv => by simp at hv; rcases hv with rfl | rfl <;> rfl)
    (fun x y => (x.1 : Int) - y.1) ⟨fun x => by rw [hlt]; simp, fun x y z h1 h2 => by rw [hlt] at *; simp at *; omega, fun x y z h1 h2 => by rw [hlt] at *; simp at *; omega⟩ (fun x => rightN x = true)
    ⟨_, Tryz.func39, by kernel_rfl, by kernel_rfl⟩ (fun x y hx hy W => cmp_of (fun σ => cmpfrom σ x.1 x.2 y.1 y.2 (hb0 x hx) (hb0 y hy)) W) hr (by omega)
    ⟨_, Tryz.func38, by kernel_rfl, by kernel_rfl⟩
  exact fun F w hI => (h F w hI).mono fun v w' ⟨σ', r, h1, ⟨h2, h3, l', h4, h5, h6⟩, h7⟩ => ⟨σ', r, h1, ⟨h2, h3, l', h4, h5.imp fun {x y} h => by rw [hlt] at h; simpa using h, h6⟩, h7⟩
theorem smerge {σ : Stb} {A : Option Addr} {n0 cc : Nat} {l : List N2} (hS : Sl σ 2 esn (.slice A n0 cc) l) (hl : l.length ≤ 1000000) (hr : ∀ x ∈ l, rightN x = true) :
    Sp0 Tryz.prog 18 [.slice A n0 cc, i64 0] σ fun v σ' => ∃ l' : List N2, l'.Perm l ∧ l'.Pairwise (fun x y => x.1 ≤ y.1) ∧ Sl σ' 2 esn v (mergeL 0 l') := by
  have hn0 := hS.len
  subst hn0
  refine sp0 Tryz.func18 rfl (by kernel_rfl) rfl fun F => ?_
  refine t_seq ?_
  refine t_region ?_
  refine l_p rfl rfl (p_assign rfl) ?_
  refine l_nil ?_
  refine t_seq ?_
  refine t_region ?_
  refine l_p rfl rfl (p_move rfl) ?_
  refine l_p rfl rfl (p_max rfl rfl) ?_
  refine l_p rfl rfl (p_assign rfl) ?_
  refine l_nil ?_
  refine t_seq ?_
  refine t_region ?_
  refine l_p rfl rfl (p_move rfl) ?_
  refine l_call1 rfl rfl rfl (clone_sp hS hl) ?_
  rintro _ σ1 _ hσ1 ⟨A1, c1, rfl, rfl⟩
  skip
  refine l_callL rfl rfl rfl (delete_none hl (Rdb.own .z) hr) ?_
  refine l_p rfl rfl (p_assign rfl) ?_
  refine l_nil ?_
  refine t_seq ?_
  refine t_region ?_
  refine l_p rfl rfl (p_move rfl) ?_
  refine l_callq1 rfl rfl rfl .z (sortfunc hl hr) ?_
  rintro _ _ _ - ⟨rfl, rfl, l', hp, hsort, rfl⟩
  have hll : l'.length = l.length := hp.length_eq
  rw [← hll]
  refine l_nil ?_
  refine t_seq ?_
  refine t_region ?_
  refine l_p rfl rfl (p_assign rfl) ?_
  refine l_nil ?_
  refine t_seq ?_
  refine t_seq ?_
  refine t_region ?_
  refine l_p rfl rfl (p_move rfl) ?_
  refine l_p rfl rfl (p_lensl (by exact rfl)) ?_
  refine l_p rfl rfl (p_move rfl) ?_
  refine l_nil ?_
  refine t_block ?_
  refine t_fzo .z fun σ2 hσ2 hS2 => ?_
  refine t_loop (ι := Nat × Option Addr × Nat × List Res) { E := fun i => [(1, i64 0), (17, .slice A1 l'.length c1), (18, i64 l'.length), (19, i64 i.1), (6, .slice i.2.1 (mergeL 0 (l'.take i.1)).length i.2.2.1)], S := fun _ => σ2, M := fun i => own 2 esn 32 (.slice i.2.1 (mergeL 0 (l'.take i.1)).length i.2.2.1) (mergeL 0 (l'.take i.1)) :: (i.2.2.2 ++ F), Φ := fun i => i.1 ≤ l'.length } (fun i => l'.length - i.1) (0, none, 0, [])
    (by exact ⟨rfl, rfl, rfl, rfl, rfl, trivial⟩) (Nat.zero_le _) (fun w hI => hI.own0 ..) ?_
  rintro ⟨i, A, cc, R⟩ h1
  dsimp only at h1 ⊢
  have hml := mergeL_len 0 (l'.take i)
  simp only [List.length_take, Nat.min_eq_left h1] at hml
  refine t_seq ?_
  refine t_region ?_
  refine l_p rfl rfl (p_lt rfl rfl) ?_
  refine l_nil ?_
  refine t_seq ?_
  refine t_ifd rfl (fun h5 => ?_) (fun h5 => ?_)
  · have hi : i < l'.length := by omega
    have hstep : mergeL 0 (l'.take (i + 1)) = mergeStep 0 (mergeL 0 (l'.take i)) l'[i] := by rw [take_succ l' i hi, mergeL_snoc]
    have hb0 : ∀ x ∈ l', x.1 ≤ 4611686018427387903 ∧ x.2 ≤ 4611686018427387903 := fun x hx => by have := hr x (hp.mem_iff.1 hx); simp [rightN] at this; omega
    have hbs := hb0 l'[i] (List.getElem_mem hi)
    have hbo := mergeL_bd (M := 4611686018427387903) 0 (l'.take i) (fun x hx => (hb0 x (List.mem_of_mem_take hx)).2)
    generalize mergeL 0 (l'.take i) = out at *
    rcases snoc_cases out with rfl | ⟨o, t, rfl⟩
    · rw [mergeStep_nil] at hstep
      refine t_skip ?_
      refine t_seq ?_
      refine t_block ?_
      refine t_seq ?_
      refine t_region ?_
      refine l_p rfl rfl (p_ix _ (by exact rfl) (by exact rfl) (by exact rfl) (by omega) (Rds.ix (by assumption) (by omega))) ?_
      refine l_p rfl rfl (p_ldn (by exact rfl) (Rds.ix (by assumption) (by omega)) (by exact rfl) (by exact rfl)) ?_
      refine l_alloc (by exact rfl) (by exact rfl) (by exact rfl) ?_; intro _
      refine l_sti rfl rfl rfl rfl rfl (by exact rfl) (by exact rfl) (by exact rfl) (by exact ⟨rfl, rfl⟩) ?_
      refine l_nil ?_
      refine t_seq ?_
      refine t_region ?_
      refine l_p rfl rfl (p_move rfl) ?_
      refine l_p rfl rfl (p_lensl (by exact rfl)) ?_
      refine l_p rfl rfl (p_assign rfl) ?_
      refine l_nil ?_
      refine t_seq ?_
      refine t_seq ?_
      refine t_draw (by kernel_rfl) ?_
      refine q_p rfl rfl (p_move rfl) ?_
      refine q_p rfl rfl (p_gt rfl rfl) ?_
      refine q_p rfl rfl (p_move rfl) ?_
      refine q_skip rfl rfl ?_
      refine q_skip rfl rfl ?_
      refine q_skip rfl rfl ?_
      refine q_skip rfl rfl ?_
      refine q_skip rfl rfl ?_
      refine q_skip rfl rfl ?_
      refine q_skip rfl rfl ?_
      refine q_skip rfl rfl ?_
      refine q_skip rfl rfl ?_
      refine q_skip rfl rfl ?_
      refine q_skip rfl rfl ?_
      refine q_p rfl rfl (p_pickf rfl rfl) ?_
      refine q_nil ?_
      refine t_iff rfl ?_
      refine t_skip ?_
      refine t_region ?_
      refine l_p rfl rfl (p_move rfl) ?_
      refine l_p rfl rfl (p_ldn (by exact rfl) Rds.bxi (by exact rfl) (by exact rfl)) ?_
      refine l_bsl (by exact rfl) (by exact rfl) (by exact rfl) (by exact rfl) (by exact rfl) (by exact rfl) (by exact rfl) ?_; intro _
      refine l_app1 (enc := esn) l'[i] rfl rfl rfl rfl (.s (.s .z)) .z (by exact rfl) rfl (by exact rfl) (by exact rfl) (by omega) (by omega) fun A' cc' => ?_
      refine l_p rfl rfl (p_assign rfl) ?_
      refine l_nil ?_
      refine t_blk ?_
      refine t_region ?_
      refine l_p rfl rfl (p_add rfl rfl (by omega)) ?_
      refine l_p rfl rfl (p_move rfl) ?_
      refine l_nil ?_
      exact t_round (i + 1, A', cc', _ :: _ :: R) ⟨rfl, rfl, rfl, gi rfl (by omega), gs rfl (by rw [hstep]; simp), trivial⟩ (by simp only; omega) (by show l'.length - (i + 1) < l'.length - i; omega) (fun w hI => Inv.oc (by rw [hstep]; simp) hstep.symm hI)
    · have ht := hbo t (by simp)
      have hol : (o ++ [t]).length = o.length + 1 := by simp
      rw [hol] at *
      have hrd : ∀ L, Has (own 2 esn 32 (.slice A (o.length + 1) cc) (o ++ [t])) L → Rds σ2 L (ixp (.slice A (o.length + 1) cc) 2 o.length) (esn t) := fun L h => Rds.of (Rds.ixo h (k := o.length) (by simp)) (by simp)
      have hml' : o.length + 1 ≤ i := by simpa using hml
      refine t_skip ?_
      refine t_seq ?_
      refine t_block ?_
      refine t_seq ?_
      refine t_region ?_
      refine l_p rfl rfl (p_ix _ (by exact rfl) (by exact rfl) (by exact rfl) (by omega) (Rds.ix (by assumption) (by omega))) ?_
      refine l_p rfl rfl (p_ldn (by exact rfl) (Rds.ix (by assumption) (by omega)) (by exact rfl) (by exact rfl)) ?_
      refine l_alloc (by exact rfl) (by exact rfl) (by exact rfl) ?_; intro _
      refine l_sti rfl rfl rfl rfl rfl (by exact rfl) (by exact rfl) (by exact rfl) (by exact ⟨rfl, rfl⟩) ?_
      refine l_nil ?_
      refine t_seq ?_
      refine t_region ?_
      refine l_p rfl rfl (p_move rfl) ?_
      refine l_p rfl rfl (p_lensl (by exact rfl)) ?_
      refine l_p rfl rfl (p_assign rfl) ?_
      refine l_nil ?_
      refine t_seq ?_
      refine t_seq ?_
      refine t_draw (by kernel_rfl) ?_
      refine q_p rfl rfl (p_move rfl) ?_
      refine q_p rfl rfl (p_gt rfl rfl) ?_
      refine q_p rfl rfl (p_move rfl) ?_
      refine q_split 27 rfl (fun _ => ?_) (fun h => by omega)
      refine q_p rfl rfl (p_fa (by exact rfl) Rds.bxi) ?_
      refine q_p rfl rfl (p_ld1 (by exact rfl) Rds.bxi) ?_
      refine q_p rfl rfl (p_move rfl) ?_
      refine q_p rfl rfl (p_move rfl) ?_
      refine q_p rfl rfl (p_sub rfl rfl (by omega)) ?_
      refine q_p rfl rfl (p_ix o.length rfl rfl (by omega) (by first | omega | (simp; done)) (hrd _ (by with_reducible first | exact .z | exact .s .z | exact .s (.s .z) | exact .s (.s (.s .z)) | exact .s (.s (.s (.s .z))) | exact .s (.s (.s (.s (.s .z))))))) ?_
      refine q_p rfl rfl (p_fa rfl (hrd _ (by with_reducible first | exact .z | exact .s .z | exact .s (.s .z) | exact .s (.s (.s .z)) | exact .s (.s (.s (.s .z))) | exact .s (.s (.s (.s (.s .z))))))) ?_
      refine q_p rfl rfl (p_ld1 rfl (Rds.fld (hrd _ (by with_reducible first | exact .z | exact .s .z | exact .s (.s .z) | exact .s (.s (.s .z)) | exact .s (.s (.s (.s .z))) | exact .s (.s (.s (.s (.s .z)))))) (by exact rfl))) ?_
      refine q_p rfl rfl (p_sub rfl rfl (by omega)) ?_
      refine q_p rfl rfl (p_move rfl) ?_
      refine q_p rfl rfl (p_le rfl rfl) ?_
      refine q_p rfl rfl (p_pickt rfl rfl) ?_
      refine q_nil ?_
      refine t_ifd rfl (fun h7 => ?_) (fun h7 => ?_)
      · rw [mergeStep_in 0 o t l'[i] (by omega)] at hstep
        refine t_seq ?_
        have hmx : max (t.2 : Int) l'[i].2 = ((max t.2 l'[i].2 : Nat) : Int) := by omega
        refine t_still 12 rfl rfl (by kernel_rfl) ?_
        refine w_p rfl rfl (p_move rfl) ?_
        refine w_p rfl rfl (p_move rfl) ?_
        refine w_p rfl rfl (p_sub rfl rfl (by omega)) ?_
        refine w_p rfl rfl (p_move rfl) ?_
        refine w_p rfl rfl (p_move rfl) ?_
        refine w_p rfl rfl (p_sub rfl rfl (by omega)) ?_
        refine w_p rfl rfl (p_ix o.length rfl rfl (by omega) (by first | omega | (simp; done)) (hrd _ (by with_reducible first | exact .z | exact .s .z | exact .s (.s .z) | exact .s (.s (.s .z)) | exact .s (.s (.s (.s .z))) | exact .s (.s (.s (.s (.s .z))))))) ?_
        refine w_p rfl rfl (p_fa rfl (hrd _ (by with_reducible first | exact .z | exact .s .z | exact .s (.s .z) | exact .s (.s (.s .z)) | exact .s (.s (.s (.s .z))) | exact .s (.s (.s (.s (.s .z))))))) ?_
        refine w_p rfl rfl (p_ld1 rfl (Rds.fld (hrd _ (by with_reducible first | exact .z | exact .s .z | exact .s (.s .z) | exact .s (.s (.s .z)) | exact .s (.s (.s (.s .z))) | exact .s (.s (.s (.s (.s .z)))))) (by exact rfl))) ?_
        refine w_p rfl rfl (p_fa (by exact rfl) Rds.bxi) ?_
        refine w_p rfl rfl (p_ld1 (by exact rfl) (Rds.fld Rds.bxi (by exact rfl))) ?_
        refine w_p rfl rfl (p_max rfl rfl) ?_
        refine w_nil ?_
        refine l_p rfl rfl (p_ix o.length rfl rfl (by omega) (by first | omega | (simp; done)) (hrd _ (by with_reducible first | exact .z | exact .s .z | exact .s (.s .z) | exact .s (.s (.s .z)) | exact .s (.s (.s (.s .z))) | exact .s (.s (.s (.s (.s .z))))))) ?_
        refine l_p rfl rfl (p_fa rfl (hrd _ (by with_reducible first | exact .z | exact .s .z | exact .s (.s .z) | exact .s (.s (.s .z)) | exact .s (.s (.s (.s .z))) | exact .s (.s (.s (.s (.s .z))))))) ?_
        refine l_sto (enc := esn) o.length 1 (t.1, max t.2 l'[i].2) rfl rfl rfl rfl rfl rfl (by exact rfl) (by simp) (by simp [hmx]; rfl) (.s .z) ?_
        refine l_nil ?_
        refine t_exit rfl ?_
        refine t_region ?_
        refine l_p rfl rfl (p_add rfl rfl (by omega)) ?_
        refine l_p rfl rfl (p_move rfl) ?_
        refine l_nil ?_
        exact t_round (i + 1, A, cc, _ :: R) ⟨rfl, rfl, rfl, gi rfl (by omega), gs rfl (by rw [hstep]; simp), trivial⟩ (by simp only; omega) (by show l'.length - (i + 1) < l'.length - i; omega) (fun w hI => Inv.oc (by rw [hstep]; simp) (by rw [hstep]; simp) (hI.perm (.swap ..)))
      · rw [mergeStep_out 0 o t l'[i] (by omega)] at hstep
        refine t_skip ?_
        refine t_region ?_
        refine l_p rfl rfl (p_move rfl) ?_
        refine l_p rfl rfl (p_ldn (by exact rfl) Rds.bxi (by exact rfl) (by exact rfl)) ?_
        refine l_bsl (by exact rfl) (by exact rfl) (by exact rfl) (by exact rfl) (by exact rfl) (by exact rfl) (by exact rfl) ?_; intro _
        refine l_app1 (enc := esn) l'[i] rfl rfl rfl rfl (.s (.s .z)) .z (by exact rfl) rfl (by exact rfl) (by exact rfl) (by omega) (by omega) fun A' cc' => ?_
        refine l_p rfl rfl (p_assign rfl) ?_
        refine l_nil ?_
        refine t_blk ?_
        refine t_region ?_
        refine l_p rfl rfl (p_add rfl rfl (by omega)) ?_
        refine l_p rfl rfl (p_move rfl) ?_
        refine l_nil ?_
        exact t_round (i + 1, A', cc', _ :: _ :: R) ⟨rfl, rfl, rfl, gi rfl (by omega), gs rfl (by rw [hstep]; simp), trivial⟩ (by simp only; omega) (by show l'.length - (i + 1) < l'.length - i; omega) (fun w hI => Inv.oc (by rw [hstep]; simp) hstep.symm hI)
  · have hn : i = l'.length := by omega
    subst hn
    rw [List.take_length]
    refine t_exit rfl ?_
    refine t_seq ?_
    refine t_region ?_
    refine l_p rfl rfl (p_move rfl) ?_
    refine l_p rfl rfl (p_assign rfl) ?_
    refine l_nil ?_
    refine t_fzo .z fun σ3 hσ3 hS3 => ?_
    exact t_ret1 rfl rfl fun w hI => ⟨σ3, (hσ1.trans hσ2).trans hσ3, ⟨l', hp, hsort, hS3⟩, hI.dropN R⟩
end Go.Proofs.YtfglenbfbcckjaaGreatDoor
