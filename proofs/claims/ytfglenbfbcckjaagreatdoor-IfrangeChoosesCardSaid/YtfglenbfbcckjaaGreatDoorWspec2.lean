/- Layer 5 (spec), and the document's: walks. -/
import Derived.Test.YtfglenbfbcckjaaGreatDoorWspec
import Derived.Test.YtfglenbfbcckjaaGreatDoorWlist2
set_option linter.unusedSimpArgs false
set_option linter.unusedVariables false
set_option maxRecDepth 20000
namespace Go.Proofs.YtfglenbfbcckjaaGreatDoor
open Go.Sp
attribute [local irreducible] Go.Sp.Pr Go.Sp.Ws Go.Sp.Wl Go.Sp.Wq Go.Sp.Rds Go.Sp.Src
def SpecsR (σ : Stb) (v : Value) (x : List S3 × Nat) : Prop := ∃ sv, v = .tuple #[sv, i64 x.2] ∧ Sl σ 3 esp sv x.1
theorem lst_len (f : Bool) (out : List (List UInt8)) (ps l : List (List UInt8)) (n : Nat) (h : lst f out ps = some l) (ho : ∀ p ∈ out, p.length ≤ n) (hp : ∀ p ∈ ps, p.length ≤ n) : l.length ≤ out.length + ps.length ∧ ∀ p ∈ l, p.length ≤ n := by
  induction ps generalizing f out with
  | nil => simp [lst] at h; subst h; exact ⟨by simp, ho⟩
  | cons p r ih =>
    simp only [lst] at h
    have hr : ∀ q ∈ r, q.length ≤ n := fun q hq => hp q (by simp [hq])
    split at h
    · split at h
      · cases h
      · obtain ⟨h1, h2⟩ := ih false out h ho hr
        exact ⟨by simp; omega, h2⟩
    · split at h
      · cases h
      · have htl := trim_len p
        have hpn := hp p (by simp)
        obtain ⟨h1, h2⟩ := ih false _ h (fun q hq => by
          rcases List.mem_append.1 hq with hq | hq
          · exact ho q hq
          · simp at hq; subst hq; omega) hr
        exact ⟨by simp at h1 ⊢; omega, h2⟩
theorem sparse (σ : Stb) (s : List UInt8) (hs : s.length ≤ 1000000) : Sp0 Tryz.prog 25 [st s] σ fun v σ' => SpecsR σ' v (specs s) := by
  refine sp0 Tryz.func25 rfl (by kernel_rfl) rfl fun F => ?_
  have ht := trim_len s
  have hc := cut_len (trim s) 61
  have hpl := pieces_len (cut (trim s) 61).2.1
  refine t_seq ?_
  refine t_region ?_
  refine l_p rfl rfl (p_assign rfl) ?_
  refine l_p rfl rfl (p_assign rfl) ?_
  refine l_nil ?_
  refine t_seq ?_
  refine t_region ?_
  refine l_p rfl rfl (p_move rfl) ?_
  refine l_callv rfl rfl rfl (ttrim σ s (by omega)) ?_
  skip
  refine l_callv rfl rfl rfl (tcut σ (trim s) 61 (by omega)) ?_
  refine l_p rfl rfl (p_move rfl) ?_
  refine l_p rfl rfl (p_ext rfl rfl) ?_
  refine l_p rfl rfl (p_ext rfl rfl) ?_
  refine l_p rfl rfl (p_ext rfl rfl) ?_
  refine l_p rfl rfl (p_assign rfl) ?_
  refine l_p rfl rfl (p_assign rfl) ?_
  refine l_p rfl rfl (p_assign rfl) ?_
  refine l_nil ?_
  refine t_seq ?_
  refine t_region ?_
  refine l_p rfl rfl (p_move rfl) ?_
  refine l_call0 rfl rfl rfl (tlist σ _ (by omega)) ?_
  rintro _ σ1 hσ1 ⟨sv, rfl, hS⟩
  have hsp : specs s = match lst true [] (pieces (cut (trim s) 61).2.1) with
    | none => ([], 3)
    | some l => if (cut (trim s) 61).2.2 = false ∨ lower (cut (trim s) 61).1 ≠ bytesS ∨ l = [] then ([], 3) else specs2 l := rfl
  have hlen : ∀ l, lst true [] (pieces (cut (trim s) 61).2.1) = some l → l.length ≤ 1000001 ∧ ∀ p ∈ l, p.length ≤ 1000000 := fun l hl => by
    obtain ⟨h1, h2⟩ := lst_len _ _ _ _ 1000000 hl (by simp) (fun p hp => by have := hpl.2 p hp; omega)
    exact ⟨by simp at h1; omega, h2⟩
  have hbl : lower bytesS = bytesS := by decide
  generalize hT : specs s = tot at hsp ⊢
  generalize lst true [] (pieces (cut (trim s) 61).2.1) = o at *
  generalize cut (trim s) 61 = q at *
  obtain ⟨u, set, is⟩ := q
  dsimp only at hsp hc hpl ⊢
  have hbad : ∀ w, Inv σ1 F w → tot = ([], 3) → ∃ σ', σ.le σ' ∧ SpecsR σ' (.tuple #[.slice none 0 0, i64 3]) tot ∧ Sp.Inv σ' F w := fun w hI e => ⟨σ1, hσ1, ⟨_, by rw [e]; rfl, by rw [e]; exact Sl.nil ..⟩, hI⟩
  cases is with
  | false =>
    have e : tot = ([], 3) := by rw [hsp]; cases o <;> simp
    refine l_p rfl rfl (p_move rfl) ?_
    refine l_p rfl rfl (p_ext rfl rfl) ?_
    refine l_p rfl rfl (p_ext rfl rfl) ?_
    refine l_p rfl rfl (p_assign rfl) ?_
    refine l_p rfl rfl (p_assign rfl) ?_
    refine l_nil ?_
    refine t_seq ?_
    refine t_seq ?_
    refine t_region ?_
    refine l_p rfl rfl (p_move rfl) ?_
    refine l_p rfl rfl (p_notf rfl) ?_
    refine l_p rfl rfl (p_move rfl) ?_
    refine l_skip rfl rfl ?_
    refine l_skip rfl rfl ?_
    refine l_skip rfl rfl ?_
    refine l_p rfl rfl (p_pickt rfl rfl) ?_
    refine l_p rfl rfl (p_move rfl) ?_
    refine l_skip rfl rfl ?_
    refine l_skip rfl rfl ?_
    refine l_p rfl rfl (p_pickt rfl rfl) ?_
    refine l_p rfl rfl (p_move rfl) ?_
    refine l_skip rfl rfl ?_
    refine l_skip rfl rfl ?_
    refine l_skip rfl rfl ?_
    refine l_p rfl rfl (p_pickt rfl rfl) ?_
    refine l_nil ?_
    refine t_ift rfl ?_
    refine t_seq ?_
    refine t_region ?_
    refine l_p rfl rfl (p_assign rfl) ?_
    refine l_p rfl rfl (p_assign rfl) ?_
    refine l_nil ?_
    exact t_ret2 rfl rfl rfl fun w hI => hbad w hI e
  | true =>
    refine l_p rfl rfl (p_move rfl) ?_
    refine l_p rfl rfl (p_ext rfl rfl) ?_
    refine l_p rfl rfl (p_ext rfl rfl) ?_
    refine l_p rfl rfl (p_assign rfl) ?_
    refine l_p rfl rfl (p_assign rfl) ?_
    refine l_nil ?_
    refine t_seq ?_
    refine t_seq ?_
    refine t_region ?_
    refine l_p rfl rfl (p_move rfl) ?_
    refine l_p rfl rfl (p_nott rfl) ?_
    refine l_p rfl rfl (p_move rfl) ?_
    refine l_p rfl rfl (p_move rfl) ?_
    refine l_callv rfl rfl rfl (tfold σ1 u bytesS (by omega) (by simp [bytesS])) ?_
    refine l_p rfl rfl (p_notd rfl) ?_
    refine l_p rfl rfl (p_pickf rfl rfl) ?_
    refine l_p rfl rfl (p_move rfl) ?_
    refine l_split 34 rfl (fun h1 => ?_) (fun h1 => ?_)
    · rw [hbl] at h1
      have e : tot = ([], 3) := by rw [hsp]; cases o <;> simp [h1]
      refine l_skip rfl rfl ?_
      refine l_skip rfl rfl ?_
      refine l_p rfl rfl (p_pickt rfl rfl) ?_
      refine l_p rfl rfl (p_move rfl) ?_
      refine l_skip rfl rfl ?_
      refine l_skip rfl rfl ?_
      refine l_skip rfl rfl ?_
      refine l_p rfl rfl (p_pickt rfl rfl) ?_
      refine l_nil ?_
      refine t_ift rfl ?_
      refine t_seq ?_
      refine t_region ?_
      refine l_p rfl rfl (p_assign rfl) ?_
      refine l_p rfl rfl (p_assign rfl) ?_
      refine l_nil ?_
      exact t_ret2 rfl rfl rfl fun w hI => hbad w hI e
    rw [hbl] at h1
    have h1' : lower u = bytesS := Decidable.not_not.1 h1
    cases o with
    | none =>
      refine l_p rfl rfl (p_move rfl) ?_
      refine l_p rfl rfl (p_notf rfl) ?_
      refine l_p rfl rfl (p_pickf rfl rfl) ?_
      refine l_p rfl rfl (p_move rfl) ?_
      refine l_skip rfl rfl ?_
      refine l_skip rfl rfl ?_
      refine l_skip rfl rfl ?_
      refine l_p rfl rfl (p_pickt rfl rfl) ?_
      refine l_nil ?_
      refine t_ift rfl ?_
      refine t_seq ?_
      refine t_region ?_
      refine l_p rfl rfl (p_assign rfl) ?_
      refine l_p rfl rfl (p_assign rfl) ?_
      refine l_nil ?_
      exact t_ret2 rfl rfl rfl fun w hI => hbad w hI hsp
    | some l =>
      obtain ⟨hl1, hl2⟩ := hlen l rfl
      simp only [Option.getD_some] at hS
      obtain ⟨A0, c0, rfl⟩ : ∃ A c, sv = .slice A l.length c := by obtain ⟨⟨A, c, h, _⟩, _⟩ := hS; exact ⟨A, c, h⟩
      refine l_p rfl rfl (p_move rfl) ?_
      refine l_p rfl rfl (p_nott rfl) ?_
      refine l_p rfl rfl (p_pickf rfl rfl) ?_
      refine l_p rfl rfl (p_move rfl) ?_
      refine l_p rfl rfl (p_move rfl) ?_
      refine l_p rfl rfl (p_lensl (by exact rfl)) ?_
      refine l_p rfl rfl (p_eq rfl rfl) ?_
      refine l_p rfl rfl (p_pickf rfl rfl) ?_
      refine l_nil ?_
      refine t_ifd rfl (fun h2 => ?_) (fun h2 => ?_)
      · have e : tot = ([], 3) := by rw [hsp]; simp [List.length_eq_zero_iff.1 (show l.length = 0 by omega)]
        refine t_seq ?_
        refine t_region ?_
        refine l_p rfl rfl (p_assign rfl) ?_
        refine l_p rfl rfl (p_assign rfl) ?_
        refine l_nil ?_
        exact t_ret2 rfl rfl rfl fun w hI => hbad w hI e
      have hln : l ≠ [] := fun e => h2 (by rw [e]; rfl)
      simp only [Bool.true_eq_false, false_or, h1', ne_eq, not_true_eq_false, hln, if_false] at hsp
      refine t_skip ?_
      refine t_seq ?_
      refine t_region ?_
      refine l_p rfl rfl (p_assign rfl) ?_
      refine l_nil ?_
      refine t_seq ?_
      refine t_region ?_
      refine l_p rfl rfl (p_assign rfl) ?_
      refine l_nil ?_
      refine t_seq ?_
      refine t_seq ?_
      refine t_region ?_
      refine l_p rfl rfl (p_move rfl) ?_
      refine l_p rfl rfl (p_lensl (by exact rfl)) ?_
      refine l_p rfl rfl (p_move rfl) ?_
      refine l_nil ?_
      refine t_cut (ι := Option Addr × Nat × List Res) { E := fun i => [(7, .slice A0 l.length c0), (9, .slice i.1 l.length i.2.1), (10, i64 (errs l))], S := fun _ => σ1, M := fun i => own 3 esp 61 (.slice i.1 l.length i.2.1) (vals l) :: (i.2.2 ++ F), Φ := fun _ => True } ?_ ?_
      · refine t_block ?_
        refine t_loop (ι := Nat × Option Addr × Nat × List Res) { E := fun i => [(7, .slice A0 l.length c0), (43, .slice A0 l.length c0), (44, i64 l.length), (45, i64 i.1), (9, .slice i.2.1 i.1 i.2.2.1), (10, i64 (errs (l.take i.1)))], S := fun _ => σ1, M := fun i => own 3 esp 61 (.slice i.2.1 i.1 i.2.2.1) (vals (l.take i.1)) :: (i.2.2.2 ++ F), Φ := fun i => i.1 ≤ l.length } (fun i => l.length - i.1) (0, none, 0, [])
          (by exact ⟨rfl, rfl, rfl, rfl, rfl, rfl, trivial⟩) (Nat.zero_le _) (fun w hI => hI.own0 ..) ?_
        rintro ⟨i, A, cc, R⟩ h3
        dsimp only at h3 ⊢
        refine t_seq ?_
        refine t_region ?_
        refine l_p rfl rfl (p_lt rfl rfl) ?_
        refine l_nil ?_
        refine t_seq ?_
        refine t_ifd rfl (fun h4 => ?_) (fun h4 => ?_)
        · have hi : i < l.length := by omega
          have hpi := hl2 l[i] (List.getElem_mem hi)
          have hvl : (vals (l.take i)).length = i := by simp [vals]; omega
          have hv1 : vals (l.take (i + 1)) = vals (l.take i) ++ [(one l[i]).1] := by rw [take_succ l i hi, vals_snoc]
          have he1 : errs (l.take (i + 1)) = worse (errs (l.take i)) (one l[i]).2 := by rw [take_succ l i hi, errs_snoc]
          refine t_skip ?_
          refine t_seq ?_
          refine t_block ?_
          refine t_seq ?_
          refine t_region ?_
          refine l_p rfl rfl (p_ix _ (by exact rfl) (by exact rfl) (by exact rfl) (by omega) (Rds.ix (by assumption) (by omega))) ?_
          refine l_p rfl rfl (p_ld1 (by exact rfl) (Rds.of (Rds.ix (by assumption) (by omega)) (by exact rfl))) ?_
          refine l_p rfl rfl (p_assign rfl) ?_
          refine l_nil ?_
          refine t_seq ?_
          refine t_region ?_
          refine l_p rfl rfl (p_move rfl) ?_
          refine l_callv rfl rfl rfl (sone σ1 l[i] (by omega)) ?_
          refine l_p rfl rfl (p_move rfl) ?_
          refine l_p rfl rfl (p_ext rfl rfl) ?_
          refine l_p rfl rfl (p_ext rfl rfl) ?_
          refine l_alloc (by exact rfl) (by exact rfl) (by exact rfl) ?_; intro _
          refine l_sti rfl rfl rfl rfl rfl (by exact rfl) (by exact rfl) (by exact rfl) (by exact ⟨rfl, rfl⟩) ?_
          refine l_p rfl rfl (p_assign rfl) ?_
          refine l_nil ?_
          refine t_seq ?_
          refine t_region ?_
          refine l_p rfl rfl (p_move rfl) ?_
          refine l_p rfl rfl (p_move rfl) ?_
          refine l_callv rfl rfl rfl (sworse σ1 _ _) ?_
          refine l_p rfl rfl (p_assign rfl) ?_
          refine l_nil ?_
          refine t_region ?_
          refine l_p rfl rfl (p_move rfl) ?_
          refine l_p rfl rfl (p_ldn (by exact rfl) Rds.bxi (by exact rfl) (by exact rfl)) ?_
          refine l_bsl (by exact rfl) (by exact rfl) (by exact rfl) (by exact rfl) (by exact rfl) (by exact rfl) (by exact rfl) ?_; intro _
          refine l_app1 (enc := esp) (one l[i]).1 rfl rfl rfl rfl (.s (.s .z)) .z (by exact rfl) rfl (by exact rfl) (by exact rfl) (by omega) (by omega) fun A' cc' => ?_
          refine l_p rfl rfl (p_assign rfl) ?_
          refine l_nil ?_
          refine t_blk ?_
          refine t_region ?_
          refine l_p rfl rfl (p_add rfl rfl (by omega)) ?_
          refine l_p rfl rfl (p_move rfl) ?_
          refine l_nil ?_
          exact t_round (i + 1, A', cc', _ :: _ :: R) ⟨rfl, rfl, rfl, gi rfl (by omega), gs rfl (by omega), by rw [he1]; rfl, trivial⟩ (by simp only; omega) (by show l.length - (i + 1) < l.length - i; omega) (fun w hI => Inv.oc (by omega) hv1.symm hI)
        · have hn : i = l.length := by omega
          subst hn
          refine t_exit rfl ?_
          exact t_back (A, cc, R) ⟨rfl, rfl, by rw [List.take_length]; rfl, trivial⟩ trivial (fun w hI => Inv.oc rfl (by rw [List.take_length]) hI)
      rintro ⟨A, cc, R⟩ -
      dsimp only
      have hvl := vals_len l
      refine t_seq ?_
      refine t_block ?_
      refine t_seq ?_
      refine t_region ?_
      refine l_p rfl rfl (p_move rfl) ?_
      refine l_p rfl rfl (p_ne rfl rfl) ?_
      refine l_p rfl rfl (p_assign rfl) ?_
      refine l_nil ?_
      refine t_ifd rfl (fun h5 => ?_) (fun h5 => ?_)
      · rw [specs2, if_pos (by omega)] at hsp
        refine t_seq ?_
        refine t_region ?_
        refine l_p rfl rfl (p_move rfl) ?_
        refine l_p rfl rfl (p_assign rfl) ?_
        refine l_p rfl rfl (p_assign rfl) ?_
        refine l_nil ?_
        exact t_ret2 rfl rfl rfl fun w hI => ⟨σ1, hσ1, ⟨_, by rw [hsp]; try rfl, by rw [hsp]; exact Sl.nil ..⟩, hI.tail.dropN R⟩
      rw [specs2, if_neg (by omega)] at hsp
      refine t_seq ?_
      refine t_region ?_
      refine l_p rfl rfl (p_move rfl) ?_
      refine l_p rfl rfl (p_lensl (by exact rfl)) ?_
      refine l_p rfl rfl (p_gt rfl rfl) ?_
      refine l_p rfl rfl (p_assign rfl) ?_
      refine l_nil ?_
      refine t_ifd rfl (fun h6 => ?_) (fun h6 => ?_)
      · rw [if_pos (by omega)] at hsp
        refine t_seq ?_
        refine t_region ?_
        refine l_p rfl rfl (p_assign rfl) ?_
        refine l_p rfl rfl (p_assign rfl) ?_
        refine l_nil ?_
        exact t_ret2 rfl rfl rfl fun w hI => ⟨σ1, hσ1, ⟨_, by rw [hsp]; try rfl, by rw [hsp]; exact Sl.nil ..⟩, hI.tail.dropN R⟩
      rw [if_neg (by omega)] at hsp
      refine t_skip ?_
      refine t_blk ?_
      refine t_seq ?_
      refine t_region ?_
      refine l_p rfl rfl (p_move rfl) ?_
      refine l_p rfl rfl (p_assign rfl) ?_
      refine l_p rfl rfl (p_assign rfl) ?_
      refine l_nil ?_
      refine t_fzo .z fun σ2 hσ2 hS2 => ?_
      exact t_ret2 rfl rfl rfl fun w hI => ⟨σ2, hσ1.trans hσ2, ⟨_, by rw [hsp]; rfl, by rw [hsp]; exact hS2⟩, hI.dropN R⟩
theorem rspecs (σ : Stb) (s : List UInt8) (hs : s.length ≤ 1000000) : Sp0 Tryz.prog 19 [st s] σ fun v σ' => SpecsR σ' v (specs s) := by
  refine sp0 Tryz.func19 rfl (by kernel_rfl) rfl fun F => ?_
  have ht := trim_len s
  have hc := cut_len (trim s) 61
  have hpl := pieces_len (cut (trim s) 61).2.1
  refine t_seq ?_
  refine t_region ?_
  refine l_p rfl rfl (p_assign rfl) ?_
  refine l_p rfl rfl (p_assign rfl) ?_
  refine l_nil ?_
  refine t_seq ?_
  refine t_region ?_
  refine l_p rfl rfl (p_move rfl) ?_
  refine l_callv rfl rfl rfl (rtrim σ s (by omega)) ?_
  skip
  refine l_callv rfl rfl rfl (rcut σ (trim s) 61 (by omega)) ?_
  refine l_p rfl rfl (p_move rfl) ?_
  refine l_p rfl rfl (p_ext rfl rfl) ?_
  refine l_p rfl rfl (p_ext rfl rfl) ?_
  refine l_p rfl rfl (p_ext rfl rfl) ?_
  refine l_p rfl rfl (p_assign rfl) ?_
  refine l_p rfl rfl (p_assign rfl) ?_
  refine l_p rfl rfl (p_assign rfl) ?_
  refine l_nil ?_
  refine t_seq ?_
  refine t_region ?_
  refine l_p rfl rfl (p_move rfl) ?_
  refine l_call0 rfl rfl rfl (rpieces σ _ (by omega)) ?_
  rintro pv σ0 hσ0 hP
  obtain ⟨Ap, cp, rfl⟩ : ∃ A c, pv = .slice A (pieces (cut (trim s) 61).2.1).length c := by obtain ⟨⟨A, c, h, _⟩, _⟩ := hP; exact ⟨A, c, h⟩
  skip
  refine l_call0 rfl rfl rfl (rlist hP (by omega) (fun p hp => by have := hpl.2 p hp; omega)) ?_
  rintro _ σ1 hσ1' ⟨sv, rfl, hS⟩
  have hσ1 := hσ0.trans hσ1'
  have hsp : specs s = match lst true [] (pieces (cut (trim s) 61).2.1) with
    | none => ([], 3)
    | some l => if (cut (trim s) 61).2.2 = false ∨ lower (cut (trim s) 61).1 ≠ bytesS ∨ l = [] then ([], 3) else specs2 l := rfl
  have hlen : ∀ l, lst true [] (pieces (cut (trim s) 61).2.1) = some l → l.length ≤ 1000001 ∧ ∀ p ∈ l, p.length ≤ 1000000 := fun l hl => by
    obtain ⟨h1, h2⟩ := lst_len _ _ _ _ 1000000 hl (by simp) (fun p hp => by have := hpl.2 p hp; omega)
    exact ⟨by simp at h1; omega, h2⟩
  have hbl : lower bytesS = bytesS := by decide
  generalize hT : specs s = tot at hsp ⊢
  generalize lst true [] (pieces (cut (trim s) 61).2.1) = o at *
  generalize cut (trim s) 61 = q at *
  obtain ⟨u, set, is⟩ := q
  dsimp only at hsp hc hpl ⊢
  have hbad : ∀ w, Inv σ1 F w → tot = ([], 3) → ∃ σ', σ.le σ' ∧ SpecsR σ' (.tuple #[.slice none 0 0, i64 3]) tot ∧ Sp.Inv σ' F w := fun w hI e => ⟨σ1, hσ1, ⟨_, by rw [e]; rfl, by rw [e]; exact Sl.nil ..⟩, hI⟩
  cases is with
  | false =>
    have e : tot = ([], 3) := by rw [hsp]; cases o <;> simp
    refine l_p rfl rfl (p_move rfl) ?_
    refine l_p rfl rfl (p_ext rfl rfl) ?_
    refine l_p rfl rfl (p_ext rfl rfl) ?_
    refine l_p rfl rfl (p_assign rfl) ?_
    refine l_p rfl rfl (p_assign rfl) ?_
    refine l_nil ?_
    refine t_seq ?_
    refine t_seq ?_
    refine t_region ?_
    refine l_p rfl rfl (p_move rfl) ?_
    refine l_p rfl rfl (p_notf rfl) ?_
    refine l_p rfl rfl (p_move rfl) ?_
    refine l_skip rfl rfl ?_
    refine l_skip rfl rfl ?_
    refine l_skip rfl rfl ?_
    refine l_p rfl rfl (p_pickt rfl rfl) ?_
    refine l_p rfl rfl (p_move rfl) ?_
    refine l_skip rfl rfl ?_
    refine l_skip rfl rfl ?_
    refine l_p rfl rfl (p_pickt rfl rfl) ?_
    refine l_p rfl rfl (p_move rfl) ?_
    refine l_skip rfl rfl ?_
    refine l_skip rfl rfl ?_
    refine l_skip rfl rfl ?_
    refine l_p rfl rfl (p_pickt rfl rfl) ?_
    refine l_nil ?_
    refine t_ift rfl ?_
    refine t_seq ?_
    refine t_region ?_
    refine l_p rfl rfl (p_assign rfl) ?_
    refine l_p rfl rfl (p_assign rfl) ?_
    refine l_nil ?_
    exact t_ret2 rfl rfl rfl fun w hI => hbad w hI e
  | true =>
    refine l_p rfl rfl (p_move rfl) ?_
    refine l_p rfl rfl (p_ext rfl rfl) ?_
    refine l_p rfl rfl (p_ext rfl rfl) ?_
    refine l_p rfl rfl (p_assign rfl) ?_
    refine l_p rfl rfl (p_assign rfl) ?_
    refine l_nil ?_
    refine t_seq ?_
    refine t_seq ?_
    refine t_region ?_
    refine l_p rfl rfl (p_move rfl) ?_
    refine l_p rfl rfl (p_nott rfl) ?_
    refine l_p rfl rfl (p_move rfl) ?_
    refine l_p rfl rfl (p_move rfl) ?_
    refine l_callv rfl rfl rfl (rlower σ1 u (by omega)) ?_
    refine l_p rfl rfl (p_sne rfl rfl) ?_
    refine l_p rfl rfl (p_pickf rfl rfl) ?_
    refine l_p rfl rfl (p_move rfl) ?_
    refine l_split 35 rfl (fun h1 => ?_) (fun h1 => ?_)
    · change ¬ lower u = bytesS at h1
      have e : tot = ([], 3) := by rw [hsp]; cases o <;> simp [h1]
      refine l_skip rfl rfl ?_
      refine l_skip rfl rfl ?_
      refine l_p rfl rfl (p_pickt rfl rfl) ?_
      refine l_p rfl rfl (p_move rfl) ?_
      refine l_skip rfl rfl ?_
      refine l_skip rfl rfl ?_
      refine l_skip rfl rfl ?_
      refine l_p rfl rfl (p_pickt rfl rfl) ?_
      refine l_nil ?_
      refine t_ift rfl ?_
      refine t_seq ?_
      refine t_region ?_
      refine l_p rfl rfl (p_assign rfl) ?_
      refine l_p rfl rfl (p_assign rfl) ?_
      refine l_nil ?_
      exact t_ret2 rfl rfl rfl fun w hI => hbad w hI e
    have h1' : lower u = bytesS := Decidable.not_not.1 h1
    cases o with
    | none =>
      refine l_p rfl rfl (p_move rfl) ?_
      refine l_p rfl rfl (p_notf rfl) ?_
      refine l_p rfl rfl (p_pickf rfl rfl) ?_
      refine l_p rfl rfl (p_move rfl) ?_
      refine l_skip rfl rfl ?_
      refine l_skip rfl rfl ?_
      refine l_skip rfl rfl ?_
      refine l_p rfl rfl (p_pickt rfl rfl) ?_
      refine l_nil ?_
      refine t_ift rfl ?_
      refine t_seq ?_
      refine t_region ?_
      refine l_p rfl rfl (p_assign rfl) ?_
      refine l_p rfl rfl (p_assign rfl) ?_
      refine l_nil ?_
      exact t_ret2 rfl rfl rfl fun w hI => hbad w hI hsp
    | some l =>
      obtain ⟨hl1, hl2⟩ := hlen l rfl
      simp only [Option.getD_some] at hS
      obtain ⟨A0, c0, rfl⟩ : ∃ A c, sv = .slice A l.length c := by obtain ⟨⟨A, c, h, _⟩, _⟩ := hS; exact ⟨A, c, h⟩
      refine l_p rfl rfl (p_move rfl) ?_
      refine l_p rfl rfl (p_nott rfl) ?_
      refine l_p rfl rfl (p_pickf rfl rfl) ?_
      refine l_p rfl rfl (p_move rfl) ?_
      refine l_p rfl rfl (p_move rfl) ?_
      refine l_p rfl rfl (p_lensl (by exact rfl)) ?_
      refine l_p rfl rfl (p_eq rfl rfl) ?_
      refine l_p rfl rfl (p_pickf rfl rfl) ?_
      refine l_nil ?_
      refine t_ifd rfl (fun h2 => ?_) (fun h2 => ?_)
      · have e : tot = ([], 3) := by rw [hsp]; simp [List.length_eq_zero_iff.1 (show l.length = 0 by omega)]
        refine t_seq ?_
        refine t_region ?_
        refine l_p rfl rfl (p_assign rfl) ?_
        refine l_p rfl rfl (p_assign rfl) ?_
        refine l_nil ?_
        exact t_ret2 rfl rfl rfl fun w hI => hbad w hI e
      have hln : l ≠ [] := fun e => h2 (by rw [e]; rfl)
      simp only [Bool.true_eq_false, false_or, h1', ne_eq, not_true_eq_false, hln, if_false] at hsp
      refine t_skip ?_
      refine t_seq ?_
      refine t_region ?_
      refine l_p rfl rfl (p_assign rfl) ?_
      refine l_nil ?_
      refine t_seq ?_
      refine t_region ?_
      refine l_p rfl rfl (p_assign rfl) ?_
      refine l_nil ?_
      refine t_seq ?_
      refine t_seq ?_
      refine t_region ?_
      refine l_p rfl rfl (p_move rfl) ?_
      refine l_p rfl rfl (p_lensl (by exact rfl)) ?_
      refine l_p rfl rfl (p_move rfl) ?_
      refine l_nil ?_
      refine t_cut (ι := Option Addr × Nat × List Res) { E := fun i => [(7, .slice A0 l.length c0), (9, .slice i.1 l.length i.2.1), (10, .bool (decide (errs l ≠ 0)))], S := fun _ => σ1, M := fun i => own 3 esp 61 (.slice i.1 l.length i.2.1) (vals l) :: (i.2.2 ++ F), Φ := fun _ => errs l ≠ 3 } ?_ ?_
      · refine t_block ?_
        refine t_loop (ι := Nat × Option Addr × Nat × List Res) { E := fun i => [(7, .slice A0 l.length c0), (44, .slice A0 l.length c0), (45, i64 l.length), (46, i64 i.1), (9, .slice i.2.1 i.1 i.2.2.1), (10, .bool (decide (errs (l.take i.1) ≠ 0)))], S := fun _ => σ1, M := fun i => own 3 esp 61 (.slice i.2.1 i.1 i.2.2.1) (vals (l.take i.1)) :: (i.2.2.2 ++ F), Φ := fun i => i.1 ≤ l.length ∧ errs (l.take i.1) ≠ 3 } (fun i => l.length - i.1) (0, none, 0, [])
          (by exact ⟨rfl, rfl, rfl, rfl, rfl, rfl, trivial⟩) ⟨Nat.zero_le _, by simp [errs]⟩ (fun w hI => hI.own0 ..) ?_
        rintro ⟨i, A, cc, R⟩ ⟨h3, h3'⟩
        dsimp only at h3 h3' ⊢
        refine t_seq ?_
        refine t_region ?_
        refine l_p rfl rfl (p_lt rfl rfl) ?_
        refine l_nil ?_
        refine t_seq ?_
        refine t_ifd rfl (fun h4 => ?_) (fun h4 => ?_)
        · have hi : i < l.length := by omega
          have hpi := hl2 l[i] (List.getElem_mem hi)
          have hvl : (vals (l.take i)).length = i := by simp [vals]; omega
          have hv1 : vals (l.take (i + 1)) = vals (l.take i) ++ [(one l[i]).1] := by rw [take_succ l i hi, vals_snoc]
          have he1 : errs (l.take (i + 1)) = worse (errs (l.take i)) (one l[i]).2 := by rw [take_succ l i hi, errs_snoc]
          refine t_skip ?_
          refine t_seq ?_
          refine t_block ?_
          refine t_seq ?_
          refine t_region ?_
          refine l_p rfl rfl (p_ix _ (by exact rfl) (by exact rfl) (by exact rfl) (by omega) (Rds.ix (by assumption) (by omega))) ?_
          refine l_p rfl rfl (p_ld1 (by exact rfl) (Rds.of (Rds.ix (by assumption) (by omega)) (by exact rfl))) ?_
          refine l_p rfl rfl (p_assign rfl) ?_
          refine l_nil ?_
          refine t_seq ?_
          refine t_region ?_
          refine l_p rfl rfl (p_move rfl) ?_
          refine l_callv rfl rfl rfl (rone σ1 l[i] (by omega)) ?_
          have hc1 := errs_cases (l.take i)
          have hc2 := one_err l[i]
          refine l_p rfl rfl (p_move rfl) ?_
          refine l_p rfl rfl (p_ext rfl rfl) ?_
          refine l_p rfl rfl (p_ext rfl rfl) ?_
          refine l_alloc (by exact rfl) (by exact rfl) (by exact rfl) ?_; intro _
          refine l_sti rfl rfl rfl rfl rfl (by exact rfl) (by exact rfl) (by exact rfl) (by exact ⟨rfl, rfl⟩) ?_
          refine l_p rfl rfl (p_assign rfl) ?_
          refine l_nil ?_
          refine t_seq ?_
          refine t_seq ?_
          refine t_region ?_
          refine l_p rfl rfl (p_move rfl) ?_
          refine l_p rfl rfl (p_eq rfl rfl) ?_
          refine l_nil ?_
          refine t_ifd rfl (fun h5 => ?_) (fun h5 => ?_)
          · rw [specs2, errs_three (List.getElem_mem hi) (by omega), if_pos (by decide)] at hsp
            refine t_seq ?_
            refine t_region ?_
            refine l_p rfl rfl (p_assign rfl) ?_
            refine l_p rfl rfl (p_assign rfl) ?_
            refine l_nil ?_
            exact t_ret2 rfl rfl rfl fun w hI => ⟨σ1, hσ1, ⟨_, by rw [hsp]; try rfl, by rw [hsp]; exact Sl.nil ..⟩, hI.tail.tail.dropN R⟩
          have hw : worse (errs (l.take i)) (one l[i]).2 ≠ 3 ∧ (worse (errs (l.take i)) (one l[i]).2 ≠ 0 ↔ errs (l.take i) ≠ 0 ∨ (one l[i]).2 ≠ 0) := by
            have h5' : (one l[i]).2 ≠ 3 := by omega
            rcases hc1 with h | h | h <;> rcases hc2 with h' | h' | h' <;> simp_all [worse]
          rw [← he1] at hw
          have hfin : ∀ b : Bool, (b = true ↔ errs (l.take (i + 1)) ≠ 0) → b = decide (errs (l.take (i + 1)) ≠ 0) := fun b hb => by rw [Bool.eq_iff_iff, hb, decide_eq_true_iff]
          refine t_skip ?_
          refine t_seq ?_
          refine t_region ?_
          refine l_p rfl rfl (p_move rfl) ?_
          refine l_p rfl rfl (p_move rfl) ?_
          refine l_split 58 rfl (fun h6 => ?_) (fun h6 => ?_)
          · have e1 := hfin true (by rw [hw.2]; simp [h6])
            refine l_skip rfl rfl ?_
            refine l_skip rfl rfl ?_
            refine l_p rfl rfl (p_pickt rfl rfl) ?_
            refine l_p rfl rfl (p_assign rfl) ?_
            refine l_nil ?_
            refine t_region ?_
            refine l_p rfl rfl (p_move rfl) ?_
            refine l_p rfl rfl (p_ldn (by exact rfl) Rds.bxi (by exact rfl) (by exact rfl)) ?_
            refine l_bsl (by exact rfl) (by exact rfl) (by exact rfl) (by exact rfl) (by exact rfl) (by exact rfl) (by exact rfl) ?_; intro _
            refine l_app1 (enc := esp) (one l[i]).1 rfl rfl rfl rfl (.s (.s .z)) .z (by exact rfl) rfl (by exact rfl) (by exact rfl) (by omega) (by omega) fun A' cc' => ?_
            refine l_p rfl rfl (p_assign rfl) ?_
            refine l_nil ?_
            refine t_blk ?_
            refine t_region ?_
            refine l_p rfl rfl (p_add rfl rfl (by omega)) ?_
            refine l_p rfl rfl (p_move rfl) ?_
            refine l_nil ?_
            exact t_round (i + 1, A', cc', _ :: _ :: R) ⟨rfl, rfl, rfl, gi rfl (by omega), gs rfl (by omega), by rw [← e1]; rfl, trivial⟩ ⟨by simp only; omega, hw.1⟩ (by show l.length - (i + 1) < l.length - i; omega) (fun w hI => Inv.oc (by omega) hv1.symm hI)
          · have e1 := hfin (decide ¬ ((one l[i]).2 : Int) = 0) (by rw [hw.2, decide_eq_true_iff]; omega)
            refine l_p rfl rfl (p_move rfl) ?_
            refine l_p rfl rfl (p_ne rfl rfl) ?_
            refine l_p rfl rfl (p_pickf rfl rfl) ?_
            refine l_p rfl rfl (p_assign rfl) ?_
            refine l_nil ?_
            refine t_region ?_
            refine l_p rfl rfl (p_move rfl) ?_
            refine l_p rfl rfl (p_ldn (by exact rfl) Rds.bxi (by exact rfl) (by exact rfl)) ?_
            refine l_bsl (by exact rfl) (by exact rfl) (by exact rfl) (by exact rfl) (by exact rfl) (by exact rfl) (by exact rfl) ?_; intro _
            refine l_app1 (enc := esp) (one l[i]).1 rfl rfl rfl rfl (.s (.s .z)) .z (by exact rfl) rfl (by exact rfl) (by exact rfl) (by omega) (by omega) fun A' cc' => ?_
            refine l_p rfl rfl (p_assign rfl) ?_
            refine l_nil ?_
            refine t_blk ?_
            refine t_region ?_
            refine l_p rfl rfl (p_add rfl rfl (by omega)) ?_
            refine l_p rfl rfl (p_move rfl) ?_
            refine l_nil ?_
            exact t_round (i + 1, A', cc', _ :: _ :: R) ⟨rfl, rfl, rfl, gi rfl (by omega), gs rfl (by omega), by rw [← e1]; rfl, trivial⟩ ⟨by simp only; omega, hw.1⟩ (by show l.length - (i + 1) < l.length - i; omega) (fun w hI => Inv.oc (by omega) hv1.symm hI)
        · have hn : i = l.length := by omega
          subst hn
          refine t_exit rfl ?_
          exact t_back (A, cc, R) ⟨rfl, rfl, by rw [List.take_length]; rfl, trivial⟩ (by simpa using h3') (fun w hI => Inv.oc rfl (by rw [List.take_length]) hI)
      rintro ⟨A, cc, R⟩ hne3
      dsimp only at hne3 ⊢
      have hec := errs_cases l
      have hvl := vals_len l
      refine t_seq ?_
      refine t_seq ?_
      refine t_region ?_
      refine l_p rfl rfl (p_move rfl) ?_
      refine l_nil ?_
      refine t_ifd rfl (fun h5 => ?_) (fun h5 => ?_)
      · rw [specs2, if_pos (by omega), show errs l = 9 by omega] at hsp
        refine t_seq ?_
        refine t_region ?_
        refine l_p rfl rfl (p_assign rfl) ?_
        refine l_p rfl rfl (p_assign rfl) ?_
        refine l_nil ?_
        exact t_ret2 rfl rfl rfl fun w hI => ⟨σ1, hσ1, ⟨_, by rw [hsp]; try rfl, by rw [hsp]; exact Sl.nil ..⟩, hI.tail.dropN R⟩
      rw [specs2, if_neg (by omega)] at hsp
      refine t_skip ?_
      refine t_seq ?_
      refine t_seq ?_
      refine t_region ?_
      refine l_p rfl rfl (p_move rfl) ?_
      refine l_p rfl rfl (p_lensl (by exact rfl)) ?_
      refine l_p rfl rfl (p_gt rfl rfl) ?_
      refine l_nil ?_
      refine t_ifd rfl (fun h6 => ?_) (fun h6 => ?_)
      · rw [if_pos (by omega)] at hsp
        refine t_seq ?_
        refine t_region ?_
        refine l_p rfl rfl (p_assign rfl) ?_
        refine l_p rfl rfl (p_assign rfl) ?_
        refine l_nil ?_
        exact t_ret2 rfl rfl rfl fun w hI => ⟨σ1, hσ1, ⟨_, by rw [hsp]; try rfl, by rw [hsp]; exact Sl.nil ..⟩, hI.tail.dropN R⟩
      rw [if_neg (by omega)] at hsp
      refine t_skip ?_
      refine t_seq ?_
      refine t_region ?_
      refine l_p rfl rfl (p_move rfl) ?_
      refine l_p rfl rfl (p_assign rfl) ?_
      refine l_p rfl rfl (p_assign rfl) ?_
      refine l_nil ?_
      refine t_fzo .z fun σ2 hσ2 hS2 => ?_
      exact t_ret2 rfl rfl rfl fun w hI => ⟨σ2, hσ1.trans hσ2, ⟨_, by rw [hsp]; rfl, by rw [hsp]; exact hS2⟩, hI.dropN R⟩
end Go.Proofs.YtfglenbfbcckjaaGreatDoor
