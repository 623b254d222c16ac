/- Layers 6, 9 (spans that have bytes in common): walks. -/
import Derived.Test.YtfglenbfbcckjaaGreatDoorWspan2
set_option linter.unusedSimpArgs false
set_option linter.unusedVariables false
set_option maxRecDepth 20000
namespace Go.Proofs.YtfglenbfbcckjaaGreatDoor
open Go.Sp
attribute [local irreducible] Go.Sp.Pr Go.Sp.Ws Go.Sp.Wl Go.Sp.Wq Go.Sp.Rds Go.Sp.Src
def meetB (a b : N2) : Bool := rightN a && rightN b && rightN (max a.1 b.1, min a.2 b.2)
def meetV (a b : N2) : Value := .tuple #[vsn (if meetB a b = true then (max a.1 b.1, min a.2 b.2) else (0, 0)), .bool (meetB a b)]
theorem smeet (σ : Stb) (a a' b b' : Nat) : SpV Tryz.prog 34 [.agg #[i64 a, i64 a'], .agg #[i64 b, i64 b']] σ (meetV (a, a') (b, b')) := by
  refine spv Tryz.func34 rfl (by kernel_rfl) rfl fun F => ?_
  have hm : meetB (a, a') (b, b') = (rightN (a, a') && rightN (b, b') && rightN (max a b, min a' b')) := rfl
  have e1 : max (a : Int) b = ((max a b : Nat) : Int) := by omega
  have e2 : min (a' : Int) b' = ((min a' b' : Nat) : Int) := by omega
  refine t_seq ?_
  refine t_region ?_
  refine l_box rfl rfl rfl rfl ?_; intro _
  refine l_box rfl rfl rfl rfl ?_; intro _
  refine l_alloc (by exact rfl) (by exact rfl) (by exact rfl) ?_; intro _
  refine l_p rfl rfl (p_assign rfl) ?_
  refine l_nil ?_
  refine t_seq ?_
  refine t_region ?_
  refine l_p rfl rfl (p_fa (by exact rfl) Rds.bxi) ?_
  refine l_p rfl rfl (p_ld1 (by exact rfl) Rds.bxi) ?_
  refine l_p rfl rfl (p_fa (by exact rfl) Rds.bxi) ?_
  refine l_p rfl rfl (p_ld1 (by exact rfl) Rds.bxi) ?_
  refine l_p rfl rfl (p_max rfl rfl) ?_
  refine l_p rfl rfl (p_fa (by exact rfl) Rds.bxi) ?_
  refine l_p rfl rfl (p_ld1 (by exact rfl) (Rds.fld Rds.bxi (by exact rfl))) ?_
  refine l_p rfl rfl (p_fa (by exact rfl) Rds.bxi) ?_
  refine l_p rfl rfl (p_ld1 (by exact rfl) (Rds.fld Rds.bxi (by exact rfl))) ?_
  refine l_p rfl rfl (p_min rfl rfl) ?_
  refine l_p rfl rfl (p_build (by exact rfl) (by exact rfl) (by exact rfl) (by exact rfl)) ?_
  refine l_alloc (by exact rfl) (by exact rfl) (by exact rfl) ?_; intro _
  refine l_sti rfl rfl rfl rfl rfl (by exact rfl) (by exact rfl) (by exact rfl) (by exact ⟨rfl, rfl⟩) ?_
  refine l_nil ?_
  refine t_seq ?_
  refine t_seq ?_
  refine t_region ?_
  refine l_p rfl rfl (p_ldn (by exact rfl) Rds.bxi (by exact rfl) (by exact rfl)) ?_
  refine l_callv rfl rfl rfl (spright σ _ _) ?_
  refine l_p rfl rfl (p_not rfl) ?_
  refine l_p rfl rfl (p_move rfl) ?_
  refine l_splitb 21 rfl (fun h => ?_) (fun h => ?_)
  · have h' : meetB (a, a') (b, b') = false := by rw [hm]; simp at h; simp [h]
    refine l_skip rfl rfl ?_
    refine l_skip rfl rfl ?_
    refine l_skip rfl rfl ?_
    refine l_p rfl rfl (p_pickt rfl rfl) ?_
    refine l_p rfl rfl (p_move rfl) ?_
    refine l_skip rfl rfl ?_
    refine l_skip rfl rfl ?_
    refine l_skip rfl rfl ?_
    refine l_p rfl rfl (p_pickt rfl rfl) ?_
    refine l_nil ?_
    refine t_ift rfl ?_
    refine t_seq ?_
    refine t_region ?_
    refine l_p rfl rfl (p_build (by exact rfl) (by exact rfl) (by exact rfl) (by exact rfl)) ?_
    refine l_sti rfl rfl rfl rfl rfl (by exact rfl) (by exact rfl) (by exact rfl) (by exact ⟨rfl, rfl⟩) ?_
    refine l_p rfl rfl (p_assign rfl) ?_
    refine l_nil ?_
    exact t_ret rfl (.cn rfl Rds.bxi rfl rfl (.tmp rfl .nil)) fun w hI => ⟨by rw [meetV, h']; rfl, hI.tail.tail.tail.tail⟩
  refine l_p rfl rfl (p_ldn (by exact rfl) Rds.bxi (by exact rfl) (by exact rfl)) ?_
  refine l_callv rfl rfl rfl (spright σ _ _) ?_
  refine l_p rfl rfl (p_not rfl) ?_
  refine l_p rfl rfl (p_pickf rfl rfl) ?_
  refine l_p rfl rfl (p_move rfl) ?_
  refine l_splitb 26 rfl (fun h2 => ?_) (fun h2 => ?_)
  · have h' : meetB (a, a') (b, b') = false := by rw [hm]; simp at h2; simp [h2]
    refine l_skip rfl rfl ?_
    refine l_skip rfl rfl ?_
    refine l_skip rfl rfl ?_
    refine l_p rfl rfl (p_pickt rfl rfl) ?_
    refine l_nil ?_
    refine t_ift rfl ?_
    refine t_seq ?_
    refine t_region ?_
    refine l_p rfl rfl (p_build (by exact rfl) (by exact rfl) (by exact rfl) (by exact rfl)) ?_
    refine l_sti rfl rfl rfl rfl rfl (by exact rfl) (by exact rfl) (by exact rfl) (by exact ⟨rfl, rfl⟩) ?_
    refine l_p rfl rfl (p_assign rfl) ?_
    refine l_nil ?_
    exact t_ret rfl (.cn rfl Rds.bxi rfl rfl (.tmp rfl .nil)) fun w hI => ⟨by rw [meetV, h']; rfl, hI.tail.tail.tail.tail⟩
  refine l_p rfl rfl (p_ldn (by exact rfl) Rds.bxi (by exact rfl) (by exact rfl)) ?_
  simp only [e1, e2]
  refine l_callv rfl rfl rfl (spright σ _ _) ?_
  refine l_p rfl rfl (p_not rfl) ?_
  refine l_p rfl rfl (p_pickf rfl rfl) ?_
  refine l_nil ?_
  refine t_if rfl (fun h3 => ?_) (fun h3 => ?_)
  · have h' : meetB (a, a') (b, b') = false := by rw [hm]; simp at h3; simp [h3]
    refine t_seq ?_
    refine t_region ?_
    refine l_p rfl rfl (p_build (by exact rfl) (by exact rfl) (by exact rfl) (by exact rfl)) ?_
    refine l_sti rfl rfl rfl rfl rfl (by exact rfl) (by exact rfl) (by exact rfl) (by exact ⟨rfl, rfl⟩) ?_
    refine l_p rfl rfl (p_assign rfl) ?_
    refine l_nil ?_
    exact t_ret rfl (.cn rfl Rds.bxi rfl rfl (.tmp rfl .nil)) fun w hI => ⟨by rw [meetV, h']; rfl, hI.tail.tail.tail.tail⟩
  have h' : meetB (a, a') (b, b') = true := by rw [hm]; simp at h h2 h3; simp [h, h2, h3]
  refine t_skip ?_
  refine t_seq ?_
  refine t_region ?_
  refine l_p rfl rfl (p_ldn (by exact rfl) Rds.bxi (by exact rfl) (by exact rfl)) ?_
  refine l_sti rfl rfl rfl rfl rfl (by exact rfl) (by exact rfl) (by exact rfl) (by exact ⟨rfl, rfl⟩) ?_
  refine l_p rfl rfl (p_assign rfl) ?_
  refine l_nil ?_
  exact t_ret rfl (.cn rfl Rds.bxi rfl rfl (.tmp rfl .nil)) fun w hI => ⟨by rw [meetV, h']; rfl, hI.tail.tail.tail.tail⟩
theorem clash1 {σ : Stb} {g n cc : Nat} {a : N2} {r : List N2} (hS : Sl σ 2 esn (.slice (some ⟨g, 0, none⟩) n cc) (a :: r)) (b b' : Nat) : SpV Tryz.prog 33 [.agg #[i64 b, i64 b'], .pointer (some ⟨g, 0, none⟩)] σ (.bool (meetB a (b, b'))) := by
  refine spv Tryz.func33 rfl (by kernel_rfl) rfl fun F => ?_
  refine t_seq ?_
  refine t_region ?_
  refine l_box rfl rfl rfl rfl ?_; intro _
  refine l_p rfl rfl (p_assign rfl) ?_
  refine l_nil ?_
  refine t_seq ?_
  refine t_region ?_
  refine l_p rfl rfl (p_ldn (by exact rfl) (Rds.one hS) (by exact rfl) (by exact rfl)) ?_
  refine l_p rfl rfl (p_ldn (by exact rfl) Rds.bxi (by exact rfl) (by exact rfl)) ?_
  refine l_callv rfl rfl rfl (smeet σ _ _ _ _) ?_
  refine l_p rfl rfl (p_move rfl) ?_
  refine l_p rfl rfl (p_ext rfl rfl) ?_
  refine l_p rfl rfl (p_ext rfl rfl) ?_
  refine l_alloc (by exact rfl) (by exact rfl) (by exact rfl) ?_; intro _
  refine l_sti rfl rfl rfl rfl rfl (by exact rfl) (by exact rfl) (by exact rfl) (by exact ⟨rfl, rfl⟩) ?_
  refine l_p rfl rfl (p_assign rfl) ?_
  refine l_nil ?_
  refine t_seq ?_
  refine t_region ?_
  refine l_p rfl rfl (p_move rfl) ?_
  refine l_p rfl rfl (p_assign rfl) ?_
  refine l_nil ?_
  exact t_ret1 rfl rfl fun w hI => ⟨rfl, hI.tail.tail⟩
def idxI (p : N2 → Bool) (l : List N2) : Int := if l.any p then (l.findIdx p : Nat) else -1
theorem indexfunc {σ : Stb} {L : List Res} {A : Option Addr} {cc fid : Nat} {l : List N2} {cs : List Value} {p : N2 → Bool} (hl : l.length ≤ 1000000) (hR : Rdb σ L 2 esn (.slice A l.length cc) l) (hf : ∀ x ∈ l, SpV Tryz.prog fid (vsn x :: cs) σ (.bool (p x))) :
    SpL Tryz.prog 61 [.slice A l.length cc, .func (.func fid) ⟨[]⟩ ⟨cs⟩] σ L (i64 (idxI p l)) := by
  refine spL Tryz.func61 rfl (by kernel_rfl) rfl ?_
  refine t_seq ?_
  refine t_region ?_
  refine l_p rfl rfl (p_assign rfl) ?_
  refine l_nil ?_
  refine t_seq ?_
  refine t_seq ?_
  refine t_region ?_
  refine l_p rfl rfl (p_move rfl) ?_
  refine l_p rfl rfl (p_lensl (by exact rfl)) ?_
  refine l_p rfl rfl (p_move rfl) ?_
  refine l_nil ?_
  refine t_block ?_
  refine t_loop (ι := Nat) { E := fun i => [(0, .slice A l.length cc), (1, .func (.func fid) ⟨[]⟩ ⟨cs⟩), (6, .slice A l.length cc), (7, i64 l.length), (8, i64 i)], S := fun _ => σ, M := fun _ => L, Φ := fun i => i ≤ l.length ∧ ∀ j, j < i → ∀ x, l[j]? = some x → p x = false } (fun i => l.length - i) 0
    (by exact ⟨rfl, rfl, rfl, rfl, rfl, trivial⟩) ⟨Nat.zero_le _, by simp⟩ (fun w hI => hI) ?_
  rintro i ⟨h1, h2⟩
  dsimp only at h1 h2 ⊢
  refine t_seq ?_
  refine t_region ?_
  refine l_p rfl rfl (p_lt rfl rfl) ?_
  refine l_nil ?_
  refine t_seq ?_
  refine t_ifd rfl (fun h => ?_) (fun h => ?_)
  · have hi : i < l.length := by omega
    have hRi := hR [] i hi
    simp only [List.nil_append] at hRi
    refine t_skip ?_
    refine t_seq ?_
    refine t_block ?_
    refine t_seq ?_
    refine t_region ?_
    refine l_p rfl rfl (p_move rfl) ?_
    refine l_p rfl rfl (p_assign rfl) ?_
    refine l_nil ?_
    refine t_seq ?_
    refine t_region ?_
    refine l_p rfl rfl (p_move rfl) ?_
    refine l_p rfl rfl (p_move rfl) ?_
    refine l_p rfl rfl (p_move rfl) ?_
    refine l_p rfl rfl (p_ix _ (by exact rfl) (by exact rfl) (by exact rfl) (by omega) (by assumption)) ?_
    refine l_p rfl rfl (p_ldn (by exact rfl) (by assumption) (by exact rfl) (by exact rfl)) ?_
    refine l_callv rfl rfl rfl (hf l[i] (List.getElem_mem hi)) ?_
    refine l_nil ?_
    refine t_if rfl (fun h3 => ?_) (fun h3 => ?_)
    · have e : idxI p l = (i : Int) := by
        have ha : l.any p = true := List.any_eq_true.2 ⟨_, List.getElem_mem hi, h3⟩
        have hx : l.findIdx p = i := (List.findIdx_eq hi).2 ⟨h3, fun j hj => h2 j hj _ (List.getElem?_eq_getElem (by omega))⟩
        rw [idxI, if_pos ha, hx]
      refine t_seq ?_
      refine t_region ?_
      refine l_p rfl rfl (p_move rfl) ?_
      refine l_p rfl rfl (p_assign rfl) ?_
      refine l_nil ?_
      exact t_ret1 rfl rfl fun w hI => ⟨by rw [e], hI⟩
    · refine t_skip ?_
      refine t_blk ?_
      refine t_region ?_
      refine l_p rfl rfl (p_add rfl rfl (by omega)) ?_
      refine l_p rfl rfl (p_move rfl) ?_
      refine l_nil ?_
      exact t_round (i + 1) ⟨rfl, rfl, rfl, rfl, gi rfl (by omega), trivial⟩ ⟨by omega, fun j hj x hx => by
        by_cases hji : j = i
        · subst hji; rw [List.getElem?_eq_getElem hi] at hx; cases hx; exact h3
        · exact h2 j (by omega) x hx⟩ (by show l.length - (i + 1) < l.length - i; omega) (fun w hI => hI)
  · have e : idxI p l = -1 := by
      have ha : l.any p = false := by
        rw [List.any_eq_false]
        intro x hx
        obtain ⟨j, hj, rfl⟩ := List.getElem_of_mem hx
        rw [h2 j (by omega) _ (List.getElem?_eq_getElem hj)]; simp
      rw [idxI, if_neg (by rw [ha]; simp)]
    refine t_exit rfl ?_
    refine t_seq ?_
    refine t_region ?_
    refine l_p rfl rfl (p_assign rfl) ?_
    refine l_nil ?_
    exact t_ret1 rfl rfl fun w hI => ⟨by rw [e], hI⟩
theorem containsfunc {σ : Stb} {L : List Res} {A : Option Addr} {cc fid : Nat} {l : List N2} {cs : List Value} {p : N2 → Bool} (hl : l.length ≤ 1000000) (hR : Rdb σ L 2 esn (.slice A l.length cc) l) (hf : ∀ x ∈ l, SpV Tryz.prog fid (vsn x :: cs) σ (.bool (p x))) :
    SpL Tryz.prog 35 [.slice A l.length cc, .func (.func fid) ⟨[]⟩ ⟨cs⟩] σ L (.bool (l.any p)) := by
  refine spL Tryz.func35 rfl (by kernel_rfl) rfl ?_
  refine t_seq ?_
  refine t_region ?_
  refine l_p rfl rfl (p_assign rfl) ?_
  refine l_nil ?_
  refine t_seq ?_
  refine t_region ?_
  refine l_p rfl rfl (p_move rfl) ?_
  refine l_p rfl rfl (p_move rfl) ?_
  refine l_callL rfl rfl rfl (indexfunc hl hR hf) ?_
  refine l_p rfl rfl (p_ge rfl rfl) ?_
  refine l_p rfl rfl (p_assign rfl) ?_
  refine l_nil ?_
  exact t_ret1 rfl rfl fun w hI => ⟨by
    unfold idxI
    cases h : l.any p
    · simp
    · simp, hI⟩
/-- Whether two spans have a byte in common. -/
def clashB : List N2 → List N2 → Bool
  | _, [] => false
  | pre, a :: r => pre.any (meetB a) || clashB (pre ++ [a]) r
theorem sclash {σ : Stb} {A : Option Addr} {n0 cc : Nat} {l : List N2} (hS : Sl σ 2 esn (.slice A n0 cc) l) (hl : l.length ≤ 1000000) : SpV Tryz.prog 17 [.slice A n0 cc] σ (.bool (clashB [] l)) := by
  have hn0 := hS.len
  subst hn0
  refine spv Tryz.func17 rfl (by kernel_rfl) rfl fun F => ?_
  refine t_seq ?_
  refine t_region ?_
  refine l_p rfl rfl (p_assign rfl) ?_
  refine l_nil ?_
  refine t_seq ?_
  refine t_seq ?_
  refine t_region ?_
  refine l_p rfl rfl (p_move rfl) ?_
  refine l_p rfl rfl (p_lensl (by exact rfl)) ?_
  refine l_p rfl rfl (p_move rfl) ?_
  refine l_nil ?_
  refine t_block ?_
  refine t_loop (ι := Nat × Stb) { E := fun i => [(0, .slice A l.length cc), (6, .slice A l.length cc), (7, i64 l.length), (8, i64 i.1)], S := fun i => i.2, M := fun _ => F, Φ := fun i => i.1 ≤ l.length ∧ σ.le i.2 ∧ clashB (l.take i.1) (l.drop i.1) = clashB [] l } (fun i => l.length - i.1) (0, σ)
    (by exact ⟨rfl, rfl, rfl, rfl, trivial⟩) ⟨Nat.zero_le _, .refl σ, by simp⟩ (fun w hI => hI) ?_
  rintro ⟨i, σ1⟩ ⟨h1, hσ, h2⟩
  dsimp only at h1 hσ h2 ⊢
  have hS1 := hS.up hσ
  refine t_seq ?_
  refine t_region ?_
  refine l_p rfl rfl (p_lt rfl rfl) ?_
  refine l_nil ?_
  refine t_seq ?_
  refine t_ifd rfl (fun h => ?_) (fun h => ?_)
  · have hi : i < l.length := by omega
    rw [drop_cons l i hi, clashB, ← take_succ l i hi] at h2
    refine t_skip ?_
    refine t_seq ?_
    refine t_block ?_
    refine t_seq ?_
    refine t_region ?_
    refine l_p rfl rfl (p_move rfl) ?_
    refine l_p rfl rfl (p_ix _ (by exact rfl) (by exact rfl) (by exact rfl) (by omega) (Rds.ix (by assumption) (by omega))) ?_
    refine l_p rfl rfl (p_ldn (by exact rfl) (Rds.ix (by assumption) (by omega)) (by exact rfl) (by exact rfl)) ?_
    refine l_alloc (by exact rfl) (by exact rfl) (by exact rfl) ?_; intro _
    refine l_p rfl rfl (p_assign rfl) ?_
    refine l_sti rfl rfl rfl rfl rfl (by exact rfl) (by exact rfl) (by exact rfl) (by exact ⟨rfl, rfl⟩) ?_
    refine l_nil ?_
    refine t_seq ?_
    refine t_region ?_
    refine l_p rfl rfl (p_mkfn rfl rfl) ?_
    refine l_p rfl rfl (p_assign rfl) ?_
    refine l_nil ?_
    refine t_seq ?_
    refine t_region ?_
    refine l_p rfl rfl (p_move rfl) ?_
    refine l_p rfl rfl (p_move rfl) ?_
    refine l_ownb 2 esn [l[i]] 1 .z rfl (by exact rfl) (by simp) (by simp) ?_
    refine l_fzo .z fun σ2 hσ2 hSb => ?_
    have hcc : l.length ≤ cc := by obtain ⟨⟨A', c', h3, h4, _⟩, _⟩ := hS; cases h3; exact h4
    have hlt : (l.take i).length = i := by simp; omega
    obtain ⟨A2, c2, hsl⟩ : ∃ A2 c2, slsub (.slice A l.length cc) 2 0 i = .slice A2 i c2 := ⟨_, _, rfl⟩
    have hSub : Sl σ2 2 esn (.slice A2 i c2) (l.take i) := by
      have := (hS1.up hσ2).sub (i := 0) (j := i) (Nat.zero_le _) h1
      rw [hsl] at this
      simpa using this
    have hcf := containsfunc (σ := σ2) (L := F) (A := A2) (cc := c2) (l := l.take i) (cs := [.pointer (some ⟨_, 0, none⟩)]) (p := meetB l[i]) (by omega) (by rw [hlt]; exact Rdb.sl hSub) (fun x hx => clash1 hSb x.1 x.2)
    rw [hlt] at hcf
    refine l_p rfl rfl (p_cuth i rfl rfl rfl (by omega)) ?_
    rw [hsl]
    refine l_p rfl rfl (p_move rfl) ?_
    refine l_callL rfl rfl rfl hcf ?_
    refine l_nil ?_
    refine t_if rfl (fun h3 => ?_) (fun h3 => ?_)
    · rw [h3, Bool.true_or] at h2
      refine t_seq ?_
      refine t_region ?_
      refine l_p rfl rfl (p_assign rfl) ?_
      refine l_nil ?_
      exact t_ret1 rfl rfl fun w hI => ⟨by rw [← h2], hI.weaken (hσ.trans hσ2)⟩
    · rw [h3, Bool.false_or] at h2
      refine t_skip ?_
      refine t_blk ?_
      refine t_region ?_
      refine l_p rfl rfl (p_add rfl rfl (by omega)) ?_
      refine l_p rfl rfl (p_move rfl) ?_
      refine l_nil ?_
      exact t_round (i + 1, σ2) ⟨rfl, rfl, rfl, gi rfl (by omega), trivial⟩ ⟨by simp only; omega, hσ.trans hσ2, h2⟩ (by show l.length - (i + 1) < l.length - i; omega) (fun w hI => hI)
  · have hn : i = l.length := by omega
    subst hn
    rw [List.drop_length, clashB] at h2
    refine t_exit rfl ?_
    refine t_seq ?_
    refine t_region ?_
    refine l_p rfl rfl (p_assign rfl) ?_
    refine l_nil ?_
    exact t_ret1 rfl rfl fun w hI => ⟨by rw [← h2], hI.weaken hσ⟩
end Go.Proofs.YtfglenbfbcckjaaGreatDoor
