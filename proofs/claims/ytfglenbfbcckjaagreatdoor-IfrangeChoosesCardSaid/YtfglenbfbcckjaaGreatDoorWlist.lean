/- Lists of layer 3, and the document's: walks. -/
import Derived.Test.YtfglenbfbcckjaaGreatDoorWtext
set_option linter.unusedSimpArgs false
set_option linter.unusedVariables false
set_option maxRecDepth 20000
namespace Go.Proofs.YtfglenbfbcckjaaGreatDoor
open Go.Sp
attribute [local irreducible] Go.Sp.Pr Go.Sp.Ws Go.Sp.Wl Go.Sp.Wq Go.Sp.Rds Go.Sp.Src
def ListR (σ : Stb) (v : Value) (o : Option (List (List UInt8))) : Prop := ∃ sv, v = .tuple #[sv, .bool o.isSome] ∧ Sl σ 1 Sp.es sv (o.getD [])
theorem tlist (σ : Stb) (s : List UInt8) (hs : s.length ≤ 4000000000) : Sp0 Tryz.prog 51 [st s] σ fun v σ' => ListR σ' v (lst true [] (pieces s)) := by
  refine sp0 Tryz.func51 rfl (by kernel_rfl) rfl fun F => ?_
  refine t_seq ?_
  refine t_region ?_
  refine l_p rfl rfl (p_assign rfl) ?_
  refine l_p rfl rfl (p_assign rfl) ?_
  refine l_nil ?_
  refine t_seq ?_
  refine t_region ?_
  refine l_p rfl rfl (p_assign rfl) ?_
  refine l_nil ?_
  refine t_seq ?_
  refine t_region ?_
  refine l_p rfl rfl (p_move rfl) ?_
  refine l_p rfl rfl (p_assign rfl) ?_
  refine l_p rfl rfl (p_assign rfl) ?_
  refine l_nil ?_
  refine t_seq ?_
  refine t_seq ?_
  refine t_region ?_
  refine l_p rfl rfl (p_assign rfl) ?_
  refine l_nil ?_
  refine t_block ?_
  refine t_loop (ι := List UInt8 × Bool × Bool × List (List UInt8) × Option Addr × Nat × List Res) { E := fun i => [(5, st i.1), (6, .bool i.2.1), (7, .bool i.2.2.1), (4, .slice i.2.2.2.2.1 i.2.2.2.1.length i.2.2.2.2.2.1)], S := fun _ => σ, M := fun i => own 1 Sp.es 9 (.slice i.2.2.2.2.1 i.2.2.2.1.length i.2.2.2.2.2.1) i.2.2.2.1 :: (i.2.2.2.2.2.2 ++ F), Φ := fun i => (if i.2.1 = true then lst i.2.2.1 i.2.2.2.1 (pieces i.1) else some i.2.2.2.1) = lst true [] (pieces s) ∧ i.2.2.2.1.length + i.1.length ≤ s.length + 1 ∧ (i.2.1 = true → i.2.2.2.1.length + i.1.length ≤ s.length) }
    (fun i => if i.2.1 = true then i.1.length + 1 else 0) (s, true, true, [], none, 0, [])
    (by exact ⟨rfl, rfl, rfl, rfl, trivial⟩) ⟨rfl, by simp, by simp⟩ (fun w hI => hI.own0 ..) ?_
  rintro ⟨rest, more, first, out, A, cc, R⟩ ⟨h1, h2, h3⟩
  dsimp only at h1 h2 h3 ⊢
  cases more with
  | false =>
    refine t_seq ?_
    refine t_seq ?_
    refine t_region ?_
    refine l_p rfl rfl (p_move rfl) ?_
    refine l_nil ?_
    refine t_iff rfl ?_
    refine t_exit rfl ?_
    refine t_seq ?_
    refine t_region ?_
    refine l_p rfl rfl (p_move rfl) ?_
    refine l_p rfl rfl (p_assign rfl) ?_
    refine l_p rfl rfl (p_assign rfl) ?_
    refine l_nil ?_
    simp only [Bool.false_eq_true, if_false] at h1
    refine t_fzo .z fun σ' hσ hS => ?_
    exact t_ret2 rfl rfl rfl fun w hI => ⟨σ', hσ, ⟨_, by rw [← h1]; rfl, by rw [← h1]; exact hS⟩, hI.dropN R⟩
  | true =>
    have h3' := h3 rfl
    simp only [if_true] at h1
    rw [pieces_cut] at h1
    have hct := tcut σ rest 44 (by omega)
    have hcl := cut_len rest 44
    have hcs := cut_less (s := rest) (c := 44)
    generalize cut rest 44 = q at *
    obtain ⟨p, rest', more'⟩ := q
    dsimp only at h1 hcl hcs
    replace hct : SpV Tryz.prog 50 [st rest, u8 44] σ (.tuple #[st p, st rest', .bool more']) := hct
    have htl := trim_len p
    refine t_seq ?_
    refine t_seq ?_
    refine t_region ?_
    refine l_p rfl rfl (p_move rfl) ?_
    refine l_nil ?_
    refine t_ift rfl ?_
    refine t_skip ?_
    refine t_seq ?_
    refine t_block ?_
    refine t_seq ?_
    refine t_region ?_
    refine l_p rfl rfl (p_assign rfl) ?_
    refine l_nil ?_
    refine t_seq ?_
    refine t_region ?_
    refine l_p rfl rfl (p_move rfl) ?_
    refine l_callv rfl rfl rfl hct ?_
    refine l_p rfl rfl (p_move rfl) ?_
    refine l_p rfl rfl (p_ext rfl rfl) ?_
    refine l_p rfl rfl (p_ext rfl rfl) ?_
    refine l_p rfl rfl (p_ext rfl rfl) ?_
    refine l_p rfl rfl (p_assign rfl) ?_
    refine l_p rfl rfl (p_assign rfl) ?_
    refine l_p rfl rfl (p_assign rfl) ?_
    refine l_nil ?_
    refine t_seq ?_
    refine t_region ?_
    refine l_p rfl rfl (p_move rfl) ?_
    refine l_callv rfl rfl rfl (ttrim σ p (by omega)) ?_
    refine l_p rfl rfl (p_assign rfl) ?_
    refine l_nil ?_
    refine t_seq ?_
    refine t_seq ?_
    refine t_region ?_
    refine l_p rfl rfl (p_move rfl) ?_
    refine l_p rfl rfl (p_seq rfl rfl) ?_
    refine l_nil ?_
    refine t_ifd rfl (fun h4 => ?_) (fun h4 => ?_)
    · have hgo : lst first out (if more' = true then p :: pieces rest' else [p]) = (if first = true ∧ more' = false ∧ p ≠ [] then none else if more' = true then lst false out (pieces rest') else some out) := by
        cases more' with
        | true => simp only [if_true, lst, h4, pieces_ne, false_and, and_false, if_false, Bool.true_eq_false]
        | false => simp only [Bool.false_eq_true, if_false, lst, h4, if_true, true_and]
      rw [h1] at hgo
      refine t_seq ?_
      refine t_cut (ι := Unit) { E := fun _ => [(5, st rest'), (6, .bool more'), (4, .slice A out.length cc)], S := fun _ => σ, M := fun _ => own 1 Sp.es 9 (.slice A out.length cc) out :: (R ++ F), Φ := fun _ => ¬ (first = true ∧ more' = false ∧ p ≠ []) } ?_ ?_
      · cases first <;> cases more' <;> (first | (refine t_seq ?_; refine t_region ?_; refine l_p rfl rfl (p_move rfl) ?_; refine l_p rfl rfl (p_move rfl) ?_; refine l_skip rfl rfl ?_; refine l_skip rfl rfl ?_; refine l_p rfl rfl (p_pickf rfl rfl) ?_; refine l_p rfl rfl (p_move rfl) ?_; refine l_skip rfl rfl ?_; refine l_skip rfl rfl ?_; refine l_p rfl rfl (p_pickf rfl rfl) ?_; refine l_nil ?_; refine t_iff rfl ?_; refine t_skip ?_) | (refine t_seq ?_; refine t_region ?_; refine l_p rfl rfl (p_move rfl) ?_; refine l_p rfl rfl (p_move rfl) ?_; refine l_p rfl rfl (p_move rfl) ?_; refine l_p rfl rfl (p_nott rfl) ?_; refine l_p rfl rfl (p_pickt rfl rfl) ?_; refine l_p rfl rfl (p_move rfl) ?_; refine l_skip rfl rfl ?_; refine l_skip rfl rfl ?_; refine l_p rfl rfl (p_pickf rfl rfl) ?_; refine l_nil ?_; refine t_iff rfl ?_; refine t_skip ?_) | (refine t_seq ?_; refine t_region ?_; refine l_p rfl rfl (p_move rfl) ?_; refine l_p rfl rfl (p_move rfl) ?_; refine l_p rfl rfl (p_move rfl) ?_; refine l_p rfl rfl (p_notf rfl) ?_; refine l_p rfl rfl (p_pickt rfl rfl) ?_; refine l_p rfl rfl (p_move rfl) ?_; refine l_p rfl rfl (p_move rfl) ?_; refine l_p rfl rfl (p_sne rfl rfl) ?_; refine l_p rfl rfl (p_pickt rfl rfl) ?_; refine l_nil ?_))
        · exact t_back () ⟨rfl, rfl, rfl, trivial⟩ (by simp) (fun w hI => hI)
        · exact t_back () ⟨rfl, rfl, rfl, trivial⟩ (by simp) (fun w hI => hI)
        · refine t_ifd rfl (fun h5 => ?_) (fun h5 => ?_)
          · rw [if_pos ⟨rfl, rfl, h5⟩] at hgo
            refine t_seq ?_
            refine t_region ?_
            refine l_p rfl rfl (p_assign rfl) ?_
            refine l_p rfl rfl (p_assign rfl) ?_
            refine l_nil ?_
            exact t_ret2 rfl rfl rfl fun w hI => ⟨σ, .refl σ, ⟨_, by rw [hgo]; rfl, by rw [hgo]; exact Sl.nil ..⟩, hI.tail.dropN R⟩
          · refine t_skip ?_
            exact t_back () ⟨rfl, rfl, rfl, trivial⟩ (by simpa using h5) (fun w hI => hI)
        · exact t_back () ⟨rfl, rfl, rfl, trivial⟩ (by simp) (fun w hI => hI)
      · intro _ hc
        dsimp only at hc ⊢
        rw [if_neg hc] at hgo
        refine t_exit rfl ?_
        refine t_region ?_
        refine l_p rfl rfl (p_assign rfl) ?_
        refine l_nil ?_
        refine t_round (rest', more', false, out, A, cc, R) ⟨rfl, rfl, rfl, rfl, trivial⟩ ⟨hgo.symm, by simp only; omega, fun h => by simp only at h ⊢; have := hcs h; omega⟩ ?_ (fun w hI => hI)
        cases more' with
        | true => have := hcs rfl; simp; omega
        | false => simp
    · refine t_skip ?_
      have hp := trim_ne h4
      have hgo : lst first out (if more' = true then p :: pieces rest' else [p]) = (if first = true ∧ headBl p = true ∨ more' = false ∧ lastBl p = true then none else if more' = true then lst false (out ++ [trim p]) (pieces rest') else some (out ++ [trim p])) := by
        cases more' with
        | true => simp only [if_true, lst, h4, pieces_ne, false_and, or_false, if_false, Bool.true_eq_false]
        | false => simp only [Bool.false_eq_true, if_false, lst, h4, true_and]
      rw [h1] at hgo
      rw [headBl_eq hp, lastBl_eq hp] at hgo
      have hlb := lastBl_eq hp
      refine t_seq ?_
      refine t_cut (ι := Unit) { E := fun _ => [(5, st rest'), (6, .bool more'), (9, st (trim p)), (4, .slice A out.length cc)], S := fun _ => σ, M := fun _ => own 1 Sp.es 9 (.slice A out.length cc) out :: (R ++ F), Φ := fun _ => ¬ (first = true ∧ isBl p[0] = true ∨ more' = false ∧ isBl p[p.length - 1] = true) } ?_ ?_
      · have e : ((p.length : Int) - 1).toNat = p.length - 1 := by omega
        cases first with
        | true =>
          refine t_seq ?_
          refine t_region ?_
          refine l_p rfl rfl (p_move rfl) ?_
          refine l_p rfl rfl (p_move rfl) ?_
          refine l_p rfl rfl (p_move rfl) ?_
          refine l_p rfl rfl (p_six _ (by exact rfl) (by exact rfl) rfl (by omega)) ?_
          refine l_callv rfl rfl rfl (tblank _ _) ?_
          refine l_p rfl rfl (p_pickt rfl rfl) ?_
          refine l_p rfl rfl (p_move rfl) ?_
          refine l_splitb 37 rfl (fun h5 => ?_) (fun h5 => ?_)
          · rw [if_pos (.inl ⟨rfl, h5⟩)] at hgo
            refine l_skip rfl rfl ?_
            refine l_skip rfl rfl ?_
            refine l_skip rfl rfl ?_
            refine l_skip rfl rfl ?_
            refine l_skip rfl rfl ?_
            refine l_skip rfl rfl ?_
            refine l_skip rfl rfl ?_
            refine l_skip rfl rfl ?_
            refine l_skip rfl rfl ?_
            refine l_skip rfl rfl ?_
            refine l_p rfl rfl (p_pickt rfl rfl) ?_
            refine l_nil ?_
            refine t_ift rfl ?_
            refine t_seq ?_
            refine t_region ?_
            refine l_p rfl rfl (p_assign rfl) ?_
            refine l_p rfl rfl (p_assign rfl) ?_
            refine l_nil ?_
            exact t_ret2 rfl rfl rfl fun w hI => ⟨σ, .refl σ, ⟨_, by rw [hgo]; rfl, by rw [hgo]; exact Sl.nil ..⟩, hI.tail.dropN R⟩
          · cases more' with
            | true =>
              refine l_p rfl rfl (p_move rfl) ?_
              refine l_p rfl rfl (p_nott rfl) ?_
              refine l_p rfl rfl (p_move rfl) ?_
              refine l_skip rfl rfl ?_
              refine l_skip rfl rfl ?_
              refine l_skip rfl rfl ?_
              refine l_skip rfl rfl ?_
              refine l_skip rfl rfl ?_
              refine l_skip rfl rfl ?_
              refine l_p rfl rfl (p_pickf rfl rfl) ?_
              refine l_p rfl rfl (p_pickf rfl rfl) ?_
              refine l_nil ?_
              refine t_iff rfl ?_
              refine t_skip ?_
              exact t_back () ⟨rfl, rfl, rfl, rfl, trivial⟩ (by simp [h5]) (fun w hI => hI)
            | false =>
              refine l_p rfl rfl (p_move rfl) ?_
              refine l_p rfl rfl (p_notf rfl) ?_
              refine l_p rfl rfl (p_move rfl) ?_
              refine l_p rfl rfl (p_move rfl) ?_
              refine l_p rfl rfl (p_move rfl) ?_
              refine l_p rfl rfl (p_lens (by exact rfl)) ?_
              refine l_p rfl rfl (p_sub rfl rfl (by omega)) ?_
              refine l_p rfl rfl (p_sixI (by exact rfl) (by exact rfl) (by omega)) ?_
              refine l_callv rfl rfl rfl (tblank _ _) ?_
              refine l_p rfl rfl (p_pickt rfl rfl) ?_
              refine l_p rfl rfl (p_pickf rfl rfl) ?_
              refine l_nil ?_
              simp only [e]
              refine t_if rfl (fun h6 => ?_) (fun h6 => ?_)
              · rw [if_pos (.inr ⟨rfl, h6⟩)] at hgo
                refine t_seq ?_
                refine t_region ?_
                refine l_p rfl rfl (p_assign rfl) ?_
                refine l_p rfl rfl (p_assign rfl) ?_
                refine l_nil ?_
                exact t_ret2 rfl rfl rfl fun w hI => ⟨σ, .refl σ, ⟨_, by rw [hgo]; rfl, by rw [hgo]; exact Sl.nil ..⟩, hI.tail.dropN R⟩
              · refine t_skip ?_
                exact t_back () ⟨rfl, rfl, rfl, rfl, trivial⟩ (by simp [h5, h6]) (fun w hI => hI)
        | false =>
          cases more' with
          | true =>
            refine t_seq ?_
            refine t_region ?_
            refine l_p rfl rfl (p_move rfl) ?_
            refine l_p rfl rfl (p_move rfl) ?_
            refine l_skip rfl rfl ?_
            refine l_skip rfl rfl ?_
            refine l_skip rfl rfl ?_
            refine l_p rfl rfl (p_pickf rfl rfl) ?_
            refine l_p rfl rfl (p_move rfl) ?_
            refine l_p rfl rfl (p_move rfl) ?_
            refine l_p rfl rfl (p_nott rfl) ?_
            refine l_p rfl rfl (p_move rfl) ?_
            refine l_skip rfl rfl ?_
            refine l_skip rfl rfl ?_
            refine l_skip rfl rfl ?_
            refine l_skip rfl rfl ?_
            refine l_skip rfl rfl ?_
            refine l_skip rfl rfl ?_
            refine l_p rfl rfl (p_pickf rfl rfl) ?_
            refine l_p rfl rfl (p_pickf rfl rfl) ?_
            refine l_nil ?_
            refine t_iff rfl ?_
            refine t_skip ?_
            exact t_back () ⟨rfl, rfl, rfl, rfl, trivial⟩ (by simp) (fun w hI => hI)
          | false =>
            refine t_seq ?_
            refine t_region ?_
            refine l_p rfl rfl (p_move rfl) ?_
            refine l_p rfl rfl (p_move rfl) ?_
            refine l_skip rfl rfl ?_
            refine l_skip rfl rfl ?_
            refine l_skip rfl rfl ?_
            refine l_p rfl rfl (p_pickf rfl rfl) ?_
            refine l_p rfl rfl (p_move rfl) ?_
            refine l_p rfl rfl (p_move rfl) ?_
            refine l_p rfl rfl (p_notf rfl) ?_
            refine l_p rfl rfl (p_move rfl) ?_
            refine l_p rfl rfl (p_move rfl) ?_
            refine l_p rfl rfl (p_move rfl) ?_
            refine l_p rfl rfl (p_lens (by exact rfl)) ?_
            refine l_p rfl rfl (p_sub rfl rfl (by omega)) ?_
            refine l_p rfl rfl (p_sixI (by exact rfl) (by exact rfl) (by omega)) ?_
            refine l_callv rfl rfl rfl (tblank _ _) ?_
            refine l_p rfl rfl (p_pickt rfl rfl) ?_
            refine l_p rfl rfl (p_pickf rfl rfl) ?_
            refine l_nil ?_
            simp only [e]
            refine t_if rfl (fun h6 => ?_) (fun h6 => ?_)
            · rw [if_pos (.inr ⟨rfl, h6⟩)] at hgo
              refine t_seq ?_
              refine t_region ?_
              refine l_p rfl rfl (p_assign rfl) ?_
              refine l_p rfl rfl (p_assign rfl) ?_
              refine l_nil ?_
              exact t_ret2 rfl rfl rfl fun w hI => ⟨σ, .refl σ, ⟨_, by rw [hgo]; rfl, by rw [hgo]; exact Sl.nil ..⟩, hI.tail.dropN R⟩
            · refine t_skip ?_
              exact t_back () ⟨rfl, rfl, rfl, rfl, trivial⟩ (by simp [h6]) (fun w hI => hI)
      · intro _ hc
        dsimp only at hc ⊢
        rw [if_neg hc] at hgo
        refine t_region ?_
        refine l_p rfl rfl (p_move rfl) ?_
        refine l_p rfl rfl (p_move rfl) ?_
        refine l_bsl (by exact rfl) (by exact rfl) (by exact rfl) (by exact rfl) (by exact rfl) (by exact rfl) (by exact rfl) ?_; intro _
        refine l_app1 (enc := Sp.es) (trim p) rfl rfl rfl rfl (.s .z) .z (by exact rfl) rfl (by exact rfl) (by exact rfl) (by omega) (by omega) fun A' cc' => ?_
        refine l_p rfl rfl (p_assign rfl) ?_
        refine l_nil ?_
        refine t_blk ?_
        refine t_region ?_
        refine l_p rfl rfl (p_assign rfl) ?_
        refine l_nil ?_
        refine t_round (rest', more', false, out ++ [trim p], A', cc', _ :: R) ⟨rfl, rfl, rfl, gs rfl (by simp), trivial⟩ ⟨hgo.symm, by simp; omega, fun h => by simp only at h ⊢; have := hcs h; simp; omega⟩ ?_ (fun w hI => Inv.oc (by simp) rfl hI)
        cases more' with
        | true => have := hcs rfl; simp; omega
        | false => simp
theorem rpieces (σ : Stb) (s : List UInt8) (hs : s.length ≤ 4000000000) : Sp0 Tryz.prog 43 [st s, .bool false] σ fun v σ' => Sl σ' 1 Sp.es v (pieces s) := by
  refine sp0 Tryz.func43 rfl (by kernel_rfl) rfl fun F => ?_
  refine t_seq ?_
  refine t_region ?_
  refine l_p rfl rfl (p_assign rfl) ?_
  refine l_nil ?_
  refine t_seq ?_
  refine t_region ?_
  refine l_bsl (by exact rfl) (by exact rfl) (by exact rfl) (by exact rfl) (by exact rfl) (by exact rfl) (by exact rfl) ?_; intro _
  refine l_p rfl rfl (p_assign rfl) ?_
  refine l_nil ?_
  refine t_seq ?_
  refine t_region ?_
  refine l_p rfl rfl (p_assign rfl) ?_
  refine l_nil ?_
  refine t_seq ?_
  refine t_seq ?_
  refine t_region ?_
  refine l_p rfl rfl (p_assign rfl) ?_
  refine l_nil ?_
  refine t_block ?_
  refine t_ownb 1 Sp.es [[]] 1 .z rfl (by exact rfl) (by simp) (by simp) ?_
  refine t_loop (ι := Nat × List (List UInt8) × List UInt8 × Option Addr × Nat × List Res) { E := fun i => [(0, st s), (1, .bool false), (5, .slice i.2.2.2.1 (i.2.1.length + 1) i.2.2.2.2.1), (6, .bool false), (7, i64 i.1)], S := fun _ => σ, M := fun i => own 1 Sp.es 9 (.slice i.2.2.2.1 (i.2.1.length + 1) i.2.2.2.2.1) (i.2.1 ++ [i.2.2.1]) :: (i.2.2.2.2.2 ++ F), Φ := fun i => glue i.2.1 i.2.2.1 (pieces (s.drop i.1)) = pieces s ∧ i.1 ≤ s.length ∧ i.2.1.length ≤ i.1 ∧ i.2.2.1.length ≤ i.1 }
    (fun i => s.length - i.1) (0, [], [], _, _, [])
    (by exact ⟨rfl, rfl, rfl, rfl, rfl, trivial⟩) ⟨by simp [glue_start], by simp, by simp, by simp⟩ (fun w hI => hI) ?_
  rintro ⟨n, dn, cur, A, cc, R⟩ ⟨h1, h2, h3, h4⟩
  dsimp only at h1 h2 h3 h4 ⊢
  refine t_seq ?_
  refine t_seq ?_
  refine t_region ?_
  refine l_p rfl rfl (p_move rfl) ?_
  refine l_p rfl rfl (p_move rfl) ?_
  refine l_p rfl rfl (p_lens (by exact rfl)) ?_
  refine l_p rfl rfl (p_lt rfl rfl) ?_
  refine l_nil ?_
  refine t_ifd rfl (fun h => ?_) (fun h => ?_)
  · have hn : n < s.length := by omega
    rw [drop_cons s n hn] at h1
    refine t_skip ?_
    refine t_seq ?_
    refine t_block ?_
    refine t_seq ?_
    refine t_seq ?_
    refine t_region ?_
    refine l_p rfl rfl (p_move rfl) ?_
    refine l_p rfl rfl (p_move rfl) ?_
    refine l_p rfl rfl (p_six _ (by exact rfl) (by exact rfl) rfl (by omega)) ?_
    refine l_p rfl rfl (p_eq rfl rfl) ?_
    refine l_p rfl rfl (p_move rfl) ?_
    refine l_split 19 rfl (fun _ => ?_) (fun _ => ?_)
    all_goals
      first | (refine l_p rfl rfl (p_move rfl) ?_; refine l_p rfl rfl (p_pickt rfl rfl) ?_; refine l_nil ?_; refine t_iff rfl ?_; refine t_skip ?_; refine t_seq ?_; refine t_seq ?_; refine t_region ?_; refine l_p rfl rfl (p_move rfl) ?_; refine l_p rfl rfl (p_move rfl) ?_; refine l_p rfl rfl (p_six _ (by exact rfl) (by exact rfl) rfl (by omega)) ?_; refine l_p rfl rfl (p_eq rfl rfl) ?_; refine l_p rfl rfl (p_move rfl) ?_) | (refine l_skip rfl rfl ?_; refine l_p rfl rfl (p_pickf rfl rfl) ?_; refine l_nil ?_; refine t_iff rfl ?_; refine t_skip ?_; refine t_seq ?_; refine t_seq ?_; refine t_region ?_; refine l_p rfl rfl (p_move rfl) ?_; refine l_p rfl rfl (p_move rfl) ?_; refine l_p rfl rfl (p_six _ (by exact rfl) (by exact rfl) rfl (by omega)) ?_; refine l_p rfl rfl (p_eq rfl rfl) ?_; refine l_p rfl rfl (p_move rfl) ?_)
      refine l_split 28 rfl (fun h5 => ?_) (fun h5 => ?_)
      · have hb : s[n] = 44 := UInt8.toNat_inj.1 (Int.ofNat_inj.1 h5)
        rw [hb, glue_comma] at h1
        refine l_p rfl rfl (p_move rfl) ?_
        refine l_p rfl rfl (p_notf rfl) ?_
        refine l_p rfl rfl (p_pickt rfl rfl) ?_
        refine l_nil ?_
        refine t_ift rfl ?_
        refine t_seq ?_
        refine t_region ?_
        refine l_p rfl rfl (p_move rfl) ?_
        refine l_bsl (by exact rfl) (by exact rfl) (by exact rfl) (by exact rfl) (by exact rfl) (by exact rfl) (by exact rfl) ?_; intro _
        refine l_app1 (enc := Sp.es) [] rfl rfl rfl rfl (.s .z) .z (by exact rfl) rfl (by exact rfl) (by exact rfl) (by simp; omega) (by simp; omega) fun A' cc' => ?_
        refine l_p rfl rfl (p_assign rfl) ?_
        refine l_nil ?_
        refine t_exit rfl ?_
        refine t_region ?_
        refine l_p rfl rfl (p_move rfl) ?_
        refine l_p rfl rfl (p_add rfl rfl (by omega)) ?_
        refine l_p rfl rfl (p_assign rfl) ?_
        refine l_nil ?_
        exact t_round (n + 1, dn ++ [cur], [], A', cc', _ :: R) ⟨rfl, rfl, gs rfl (by simp), rfl, gi rfl (by omega), trivial⟩ ⟨h1, by simp only; omega, by simp; omega, by simp⟩ (by show s.length - (n + 1) < s.length - n; omega) (fun w hI => Inv.oc (by simp) rfl hI)
      · have hb : s[n] ≠ 44 := fun e => h5 (by rw [e]; rfl)
        rw [glue_byte _ _ _ hb] at h1
        refine l_skip rfl rfl ?_
        refine l_skip rfl rfl ?_
        refine l_p rfl rfl (p_pickf rfl rfl) ?_
        refine l_nil ?_
        refine t_iff rfl ?_
        refine t_skip ?_
        refine t_some .z (by simp) (fun g hg => ?_)
        subst hg
        refine t_drawd (R ++ F) (fun w hI => hI.tail) ?_
        refine d_take 0 rfl (by kernel_rfl) rfl rfl (by first | exact p_move rfl | exact p_assign rfl | exact p_eq rfl rfl | exact p_ne rfl rfl | exact p_lt rfl rfl | exact p_le rfl rfl | exact p_gt rfl rfl | exact p_ge rfl rfl | exact p_pickt rfl rfl | exact p_pickf rfl rfl | exact p_ext rfl rfl | exact p_add rfl rfl (by omega) | exact p_sub rfl rfl (by omega) | exact p_seq rfl rfl | exact p_sne rfl rfl | exact p_nott rfl | exact p_notf rfl | exact p_notd rfl | exact p_not rfl | exact p_lens (by exact rfl) | exact p_lensl (by exact rfl) | exact p_six _ (by exact rfl) (by exact rfl) rfl (by first | omega | exact Nat.zero_lt_succ _) | exact p_sixI (by exact rfl) (by exact rfl) (by omega) | exact p_sslI (by exact rfl) (by exact rfl) (by exact rfl) (by omega) | exact p_ssll _ (by exact rfl) (by exact rfl) rfl (by omega) | exact p_sslh _ (by exact rfl) (by exact rfl) rfl (by omega) | exact p_ssllI (by exact rfl) (by exact rfl) (by omega) | exact p_sslhI (by exact rfl) (by exact rfl) (by omega) | exact p_slnil (by exact rfl) (by exact rfl) | exact p_slnnil (by exact rfl) (by exact rfl) | exact p_max rfl rfl | exact p_min rfl rfl | exact p_ncp rfl | exact p_ncf rfl | exact p_mkfn rfl rfl | exact p_iface (by exact rfl) | exact p_eqs rfl rfl (by exact rfl) | exact p_nes rfl rfl (by exact rfl) | exact p_convss (by exact rfl) | exact p_cat rfl rfl (by first | omega | (simp only [List.length_cons, List.length_nil, List.length_append]; omega)) | exact p_addb8 rfl rfl (by omega) | exact p_addb rfl rfl (by omega) | exact p_subb rfl rfl (by omega) | exact p_addq rfl rfl (by omega) | exact p_addd rfl rfl (by omega) | exact p_b2s1 (by exact rfl) (by with_reducible first | exact .z | exact .s .z | exact .s (.s .z) | exact .s (.s (.s .z)) | exact .s (.s (.s (.s .z))) | exact .s (.s (.s (.s (.s .z))))) (by exact rfl) | exact p_b2s (by exact rfl) (Src.ownu (by with_reducible first | exact .z | exact .s .z | exact .s (.s .z) | exact .s (.s (.s .z)) | exact .s (.s (.s (.s .z))) | exact .s (.s (.s (.s (.s .z)))))) | exact p_conv64 (by exact rfl) (by omega) | exact p_convu64 (by exact rfl) (by omega) | exact p_convbI (by exact rfl) (by omega) | exact p_convu32 (by exact rfl) (by omega) | exact p_remk rfl rfl (by omega) | exact p_quou rfl rfl (by omega) | exact p_quo rfl rfl (by omega) | exact p_rem rfl rfl (by omega) | exact p_neg rfl (by omega) | exact p_build (by exact rfl) (by exact rfl) (by exact rfl) (by exact rfl) | exact p_ld1 (by exact rfl) (Rds.fld Rds.bxi (by exact rfl)) | exact p_ld1 (by exact rfl) (by repeat' first | exact rfl | assumption | exact Rds.bxi | refine Rds.fld ?_ ?_ | exact Rds.ix (by assumption) (by omega) | exact Rds.ixo (by with_reducible first | exact .z | exact .s .z | exact .s (.s .z) | exact .s (.s (.s .z)) | exact .s (.s (.s (.s .z))) | exact .s (.s (.s (.s (.s .z))))) (by omega) | exact Rds.of (Rds.ix (by assumption) (by omega)) (by exact rfl) | exact Rds.of (Rds.ixo (by with_reducible first | exact .z | exact .s .z | exact .s (.s .z) | exact .s (.s (.s .z)) | exact .s (.s (.s (.s .z))) | exact .s (.s (.s (.s (.s .z))))) (by omega)) (by exact rfl)) | exact p_ldn (by exact rfl) (by repeat' first | exact rfl | assumption | exact Rds.bxi | refine Rds.fld ?_ ?_ | exact Rds.ix (by assumption) (by omega) | exact Rds.ixo (by with_reducible first | exact .z | exact .s .z | exact .s (.s .z) | exact .s (.s (.s .z)) | exact .s (.s (.s (.s .z))) | exact .s (.s (.s (.s (.s .z))))) (by omega) | exact Rds.of (Rds.ix (by assumption) (by omega)) (by exact rfl) | exact Rds.of (Rds.ixo (by with_reducible first | exact .z | exact .s .z | exact .s (.s .z) | exact .s (.s (.s .z)) | exact .s (.s (.s (.s .z))) | exact .s (.s (.s (.s (.s .z))))) (by omega)) (by exact rfl)) (by exact rfl) (by exact rfl) | exact p_fa (by exact rfl) (by repeat' first | exact rfl | assumption | exact Rds.bxi | refine Rds.fld ?_ ?_ | exact Rds.ix (by assumption) (by omega) | exact Rds.ixo (by with_reducible first | exact .z | exact .s .z | exact .s (.s .z) | exact .s (.s (.s .z)) | exact .s (.s (.s (.s .z))) | exact .s (.s (.s (.s (.s .z))))) (by omega) | exact Rds.of (Rds.ix (by assumption) (by omega)) (by exact rfl) | exact Rds.of (Rds.ixo (by with_reducible first | exact .z | exact .s .z | exact .s (.s .z) | exact .s (.s (.s .z)) | exact .s (.s (.s (.s .z))) | exact .s (.s (.s (.s (.s .z))))) (by omega)) (by exact rfl)) | exact p_ixs _ rfl rfl rfl (by omega) | exact p_ix _ (by exact rfl) (by exact rfl) (by exact rfl) (by omega) (by repeat' first | exact rfl | assumption | exact Rds.bxi | refine Rds.fld ?_ ?_ | exact Rds.ix (by assumption) (by omega) | exact Rds.ixo (by with_reducible first | exact .z | exact .s .z | exact .s (.s .z) | exact .s (.s (.s .z)) | exact .s (.s (.s (.s .z))) | exact .s (.s (.s (.s (.s .z))))) (by omega) | exact Rds.of (Rds.ix (by assumption) (by omega)) (by exact rfl) | exact Rds.of (Rds.ixo (by with_reducible first | exact .z | exact .s .z | exact .s (.s .z) | exact .s (.s (.s .z)) | exact .s (.s (.s (.s .z))) | exact .s (.s (.s (.s (.s .z))))) (by omega)) (by exact rfl))) ?_
        refine d_take 1 rfl (by kernel_rfl) rfl rfl (by first | exact p_move rfl | exact p_assign rfl | exact p_eq rfl rfl | exact p_ne rfl rfl | exact p_lt rfl rfl | exact p_le rfl rfl | exact p_gt rfl rfl | exact p_ge rfl rfl | exact p_pickt rfl rfl | exact p_pickf rfl rfl | exact p_ext rfl rfl | exact p_add rfl rfl (by omega) | exact p_sub rfl rfl (by omega) | exact p_seq rfl rfl | exact p_sne rfl rfl | exact p_nott rfl | exact p_notf rfl | exact p_notd rfl | exact p_not rfl | exact p_lens (by exact rfl) | exact p_lensl (by exact rfl) | exact p_six _ (by exact rfl) (by exact rfl) rfl (by first | omega | exact Nat.zero_lt_succ _) | exact p_sixI (by exact rfl) (by exact rfl) (by omega) | exact p_sslI (by exact rfl) (by exact rfl) (by exact rfl) (by omega) | exact p_ssll _ (by exact rfl) (by exact rfl) rfl (by omega) | exact p_sslh _ (by exact rfl) (by exact rfl) rfl (by omega) | exact p_ssllI (by exact rfl) (by exact rfl) (by omega) | exact p_sslhI (by exact rfl) (by exact rfl) (by omega) | exact p_slnil (by exact rfl) (by exact rfl) | exact p_slnnil (by exact rfl) (by exact rfl) | exact p_max rfl rfl | exact p_min rfl rfl | exact p_ncp rfl | exact p_ncf rfl | exact p_mkfn rfl rfl | exact p_iface (by exact rfl) | exact p_eqs rfl rfl (by exact rfl) | exact p_nes rfl rfl (by exact rfl) | exact p_convss (by exact rfl) | exact p_cat rfl rfl (by first | omega | (simp only [List.length_cons, List.length_nil, List.length_append]; omega)) | exact p_addb8 rfl rfl (by omega) | exact p_addb rfl rfl (by omega) | exact p_subb rfl rfl (by omega) | exact p_addq rfl rfl (by omega) | exact p_addd rfl rfl (by omega) | exact p_b2s1 (by exact rfl) (by with_reducible first | exact .z | exact .s .z | exact .s (.s .z) | exact .s (.s (.s .z)) | exact .s (.s (.s (.s .z))) | exact .s (.s (.s (.s (.s .z))))) (by exact rfl) | exact p_b2s (by exact rfl) (Src.ownu (by with_reducible first | exact .z | exact .s .z | exact .s (.s .z) | exact .s (.s (.s .z)) | exact .s (.s (.s (.s .z))) | exact .s (.s (.s (.s (.s .z)))))) | exact p_conv64 (by exact rfl) (by omega) | exact p_convu64 (by exact rfl) (by omega) | exact p_convbI (by exact rfl) (by omega) | exact p_convu32 (by exact rfl) (by omega) | exact p_remk rfl rfl (by omega) | exact p_quou rfl rfl (by omega) | exact p_quo rfl rfl (by omega) | exact p_rem rfl rfl (by omega) | exact p_neg rfl (by omega) | exact p_build (by exact rfl) (by exact rfl) (by exact rfl) (by exact rfl) | exact p_ld1 (by exact rfl) (Rds.fld Rds.bxi (by exact rfl)) | exact p_ld1 (by exact rfl) (by repeat' first | exact rfl | assumption | exact Rds.bxi | refine Rds.fld ?_ ?_ | exact Rds.ix (by assumption) (by omega) | exact Rds.ixo (by with_reducible first | exact .z | exact .s .z | exact .s (.s .z) | exact .s (.s (.s .z)) | exact .s (.s (.s (.s .z))) | exact .s (.s (.s (.s (.s .z))))) (by omega) | exact Rds.of (Rds.ix (by assumption) (by omega)) (by exact rfl) | exact Rds.of (Rds.ixo (by with_reducible first | exact .z | exact .s .z | exact .s (.s .z) | exact .s (.s (.s .z)) | exact .s (.s (.s (.s .z))) | exact .s (.s (.s (.s (.s .z))))) (by omega)) (by exact rfl)) | exact p_ldn (by exact rfl) (by repeat' first | exact rfl | assumption | exact Rds.bxi | refine Rds.fld ?_ ?_ | exact Rds.ix (by assumption) (by omega) | exact Rds.ixo (by with_reducible first | exact .z | exact .s .z | exact .s (.s .z) | exact .s (.s (.s .z)) | exact .s (.s (.s (.s .z))) | exact .s (.s (.s (.s (.s .z))))) (by omega) | exact Rds.of (Rds.ix (by assumption) (by omega)) (by exact rfl) | exact Rds.of (Rds.ixo (by with_reducible first | exact .z | exact .s .z | exact .s (.s .z) | exact .s (.s (.s .z)) | exact .s (.s (.s (.s .z))) | exact .s (.s (.s (.s (.s .z))))) (by omega)) (by exact rfl)) (by exact rfl) (by exact rfl) | exact p_fa (by exact rfl) (by repeat' first | exact rfl | assumption | exact Rds.bxi | refine Rds.fld ?_ ?_ | exact Rds.ix (by assumption) (by omega) | exact Rds.ixo (by with_reducible first | exact .z | exact .s .z | exact .s (.s .z) | exact .s (.s (.s .z)) | exact .s (.s (.s (.s .z))) | exact .s (.s (.s (.s (.s .z))))) (by omega) | exact Rds.of (Rds.ix (by assumption) (by omega)) (by exact rfl) | exact Rds.of (Rds.ixo (by with_reducible first | exact .z | exact .s .z | exact .s (.s .z) | exact .s (.s (.s .z)) | exact .s (.s (.s (.s .z))) | exact .s (.s (.s (.s (.s .z))))) (by omega)) (by exact rfl)) | exact p_ixs _ rfl rfl rfl (by omega) | exact p_ix _ (by exact rfl) (by exact rfl) (by exact rfl) (by omega) (by repeat' first | exact rfl | assumption | exact Rds.bxi | refine Rds.fld ?_ ?_ | exact Rds.ix (by assumption) (by omega) | exact Rds.ixo (by with_reducible first | exact .z | exact .s .z | exact .s (.s .z) | exact .s (.s (.s .z)) | exact .s (.s (.s (.s .z))) | exact .s (.s (.s (.s (.s .z))))) (by omega) | exact Rds.of (Rds.ix (by assumption) (by omega)) (by exact rfl) | exact Rds.of (Rds.ixo (by with_reducible first | exact .z | exact .s .z | exact .s (.s .z) | exact .s (.s (.s .z)) | exact .s (.s (.s (.s .z))) | exact .s (.s (.s (.s (.s .z))))) (by omega)) (by exact rfl))) ?_
        refine d_take 2 rfl (by kernel_rfl) rfl rfl (by first | exact p_move rfl | exact p_assign rfl | exact p_eq rfl rfl | exact p_ne rfl rfl | exact p_lt rfl rfl | exact p_le rfl rfl | exact p_gt rfl rfl | exact p_ge rfl rfl | exact p_pickt rfl rfl | exact p_pickf rfl rfl | exact p_ext rfl rfl | exact p_add rfl rfl (by omega) | exact p_sub rfl rfl (by omega) | exact p_seq rfl rfl | exact p_sne rfl rfl | exact p_nott rfl | exact p_notf rfl | exact p_notd rfl | exact p_not rfl | exact p_lens (by exact rfl) | exact p_lensl (by exact rfl) | exact p_six _ (by exact rfl) (by exact rfl) rfl (by first | omega | exact Nat.zero_lt_succ _) | exact p_sixI (by exact rfl) (by exact rfl) (by omega) | exact p_sslI (by exact rfl) (by exact rfl) (by exact rfl) (by omega) | exact p_ssll _ (by exact rfl) (by exact rfl) rfl (by omega) | exact p_sslh _ (by exact rfl) (by exact rfl) rfl (by omega) | exact p_ssllI (by exact rfl) (by exact rfl) (by omega) | exact p_sslhI (by exact rfl) (by exact rfl) (by omega) | exact p_slnil (by exact rfl) (by exact rfl) | exact p_slnnil (by exact rfl) (by exact rfl) | exact p_max rfl rfl | exact p_min rfl rfl | exact p_ncp rfl | exact p_ncf rfl | exact p_mkfn rfl rfl | exact p_iface (by exact rfl) | exact p_eqs rfl rfl (by exact rfl) | exact p_nes rfl rfl (by exact rfl) | exact p_convss (by exact rfl) | exact p_cat rfl rfl (by first | omega | (simp only [List.length_cons, List.length_nil, List.length_append]; omega)) | exact p_addb8 rfl rfl (by omega) | exact p_addb rfl rfl (by omega) | exact p_subb rfl rfl (by omega) | exact p_addq rfl rfl (by omega) | exact p_addd rfl rfl (by omega) | exact p_b2s1 (by exact rfl) (by with_reducible first | exact .z | exact .s .z | exact .s (.s .z) | exact .s (.s (.s .z)) | exact .s (.s (.s (.s .z))) | exact .s (.s (.s (.s (.s .z))))) (by exact rfl) | exact p_b2s (by exact rfl) (Src.ownu (by with_reducible first | exact .z | exact .s .z | exact .s (.s .z) | exact .s (.s (.s .z)) | exact .s (.s (.s (.s .z))) | exact .s (.s (.s (.s (.s .z)))))) | exact p_conv64 (by exact rfl) (by omega) | exact p_convu64 (by exact rfl) (by omega) | exact p_convbI (by exact rfl) (by omega) | exact p_convu32 (by exact rfl) (by omega) | exact p_remk rfl rfl (by omega) | exact p_quou rfl rfl (by omega) | exact p_quo rfl rfl (by omega) | exact p_rem rfl rfl (by omega) | exact p_neg rfl (by omega) | exact p_build (by exact rfl) (by exact rfl) (by exact rfl) (by exact rfl) | exact p_ld1 (by exact rfl) (Rds.fld Rds.bxi (by exact rfl)) | exact p_ld1 (by exact rfl) (by repeat' first | exact rfl | assumption | exact Rds.bxi | refine Rds.fld ?_ ?_ | exact Rds.ix (by assumption) (by omega) | exact Rds.ixo (by with_reducible first | exact .z | exact .s .z | exact .s (.s .z) | exact .s (.s (.s .z)) | exact .s (.s (.s (.s .z))) | exact .s (.s (.s (.s (.s .z))))) (by omega) | exact Rds.of (Rds.ix (by assumption) (by omega)) (by exact rfl) | exact Rds.of (Rds.ixo (by with_reducible first | exact .z | exact .s .z | exact .s (.s .z) | exact .s (.s (.s .z)) | exact .s (.s (.s (.s .z))) | exact .s (.s (.s (.s (.s .z))))) (by omega)) (by exact rfl)) | exact p_ldn (by exact rfl) (by repeat' first | exact rfl | assumption | exact Rds.bxi | refine Rds.fld ?_ ?_ | exact Rds.ix (by assumption) (by omega) | exact Rds.ixo (by with_reducible first | exact .z | exact .s .z | exact .s (.s .z) | exact .s (.s (.s .z)) | exact .s (.s (.s (.s .z))) | exact .s (.s (.s (.s (.s .z))))) (by omega) | exact Rds.of (Rds.ix (by assumption) (by omega)) (by exact rfl) | exact Rds.of (Rds.ixo (by with_reducible first | exact .z | exact .s .z | exact .s (.s .z) | exact .s (.s (.s .z)) | exact .s (.s (.s (.s .z))) | exact .s (.s (.s (.s (.s .z))))) (by omega)) (by exact rfl)) (by exact rfl) (by exact rfl) | exact p_fa (by exact rfl) (by repeat' first | exact rfl | assumption | exact Rds.bxi | refine Rds.fld ?_ ?_ | exact Rds.ix (by assumption) (by omega) | exact Rds.ixo (by with_reducible first | exact .z | exact .s .z | exact .s (.s .z) | exact .s (.s (.s .z)) | exact .s (.s (.s (.s .z))) | exact .s (.s (.s (.s (.s .z))))) (by omega) | exact Rds.of (Rds.ix (by assumption) (by omega)) (by exact rfl) | exact Rds.of (Rds.ixo (by with_reducible first | exact .z | exact .s .z | exact .s (.s .z) | exact .s (.s (.s .z)) | exact .s (.s (.s (.s .z))) | exact .s (.s (.s (.s (.s .z))))) (by omega)) (by exact rfl)) | exact p_ixs _ rfl rfl rfl (by omega) | exact p_ix _ (by exact rfl) (by exact rfl) (by exact rfl) (by omega) (by repeat' first | exact rfl | assumption | exact Rds.bxi | refine Rds.fld ?_ ?_ | exact Rds.ix (by assumption) (by omega) | exact Rds.ixo (by with_reducible first | exact .z | exact .s .z | exact .s (.s .z) | exact .s (.s (.s .z)) | exact .s (.s (.s (.s .z))) | exact .s (.s (.s (.s (.s .z))))) (by omega) | exact Rds.of (Rds.ix (by assumption) (by omega)) (by exact rfl) | exact Rds.of (Rds.ixo (by with_reducible first | exact .z | exact .s .z | exact .s (.s .z) | exact .s (.s (.s .z)) | exact .s (.s (.s (.s .z))) | exact .s (.s (.s (.s (.s .z))))) (by omega)) (by exact rfl))) ?_
        refine d_take 3 rfl (by kernel_rfl) rfl rfl (by first | exact p_move rfl | exact p_assign rfl | exact p_eq rfl rfl | exact p_ne rfl rfl | exact p_lt rfl rfl | exact p_le rfl rfl | exact p_gt rfl rfl | exact p_ge rfl rfl | exact p_pickt rfl rfl | exact p_pickf rfl rfl | exact p_ext rfl rfl | exact p_add rfl rfl (by omega) | exact p_sub rfl rfl (by omega) | exact p_seq rfl rfl | exact p_sne rfl rfl | exact p_nott rfl | exact p_notf rfl | exact p_notd rfl | exact p_not rfl | exact p_lens (by exact rfl) | exact p_lensl (by exact rfl) | exact p_six _ (by exact rfl) (by exact rfl) rfl (by first | omega | exact Nat.zero_lt_succ _) | exact p_sixI (by exact rfl) (by exact rfl) (by omega) | exact p_sslI (by exact rfl) (by exact rfl) (by exact rfl) (by omega) | exact p_ssll _ (by exact rfl) (by exact rfl) rfl (by omega) | exact p_sslh _ (by exact rfl) (by exact rfl) rfl (by omega) | exact p_ssllI (by exact rfl) (by exact rfl) (by omega) | exact p_sslhI (by exact rfl) (by exact rfl) (by omega) | exact p_slnil (by exact rfl) (by exact rfl) | exact p_slnnil (by exact rfl) (by exact rfl) | exact p_max rfl rfl | exact p_min rfl rfl | exact p_ncp rfl | exact p_ncf rfl | exact p_mkfn rfl rfl | exact p_iface (by exact rfl) | exact p_eqs rfl rfl (by exact rfl) | exact p_nes rfl rfl (by exact rfl) | exact p_convss (by exact rfl) | exact p_cat rfl rfl (by first | omega | (simp only [List.length_cons, List.length_nil, List.length_append]; omega)) | exact p_addb8 rfl rfl (by omega) | exact p_addb rfl rfl (by omega) | exact p_subb rfl rfl (by omega) | exact p_addq rfl rfl (by omega) | exact p_addd rfl rfl (by omega) | exact p_b2s1 (by exact rfl) (by with_reducible first | exact .z | exact .s .z | exact .s (.s .z) | exact .s (.s (.s .z)) | exact .s (.s (.s (.s .z))) | exact .s (.s (.s (.s (.s .z))))) (by exact rfl) | exact p_b2s (by exact rfl) (Src.ownu (by with_reducible first | exact .z | exact .s .z | exact .s (.s .z) | exact .s (.s (.s .z)) | exact .s (.s (.s (.s .z))) | exact .s (.s (.s (.s (.s .z)))))) | exact p_conv64 (by exact rfl) (by omega) | exact p_convu64 (by exact rfl) (by omega) | exact p_convbI (by exact rfl) (by omega) | exact p_convu32 (by exact rfl) (by omega) | exact p_remk rfl rfl (by omega) | exact p_quou rfl rfl (by omega) | exact p_quo rfl rfl (by omega) | exact p_rem rfl rfl (by omega) | exact p_neg rfl (by omega) | exact p_build (by exact rfl) (by exact rfl) (by exact rfl) (by exact rfl) | exact p_ld1 (by exact rfl) (Rds.fld Rds.bxi (by exact rfl)) | exact p_ld1 (by exact rfl) (by repeat' first | exact rfl | assumption | exact Rds.bxi | refine Rds.fld ?_ ?_ | exact Rds.ix (by assumption) (by omega) | exact Rds.ixo (by with_reducible first | exact .z | exact .s .z | exact .s (.s .z) | exact .s (.s (.s .z)) | exact .s (.s (.s (.s .z))) | exact .s (.s (.s (.s (.s .z))))) (by omega) | exact Rds.of (Rds.ix (by assumption) (by omega)) (by exact rfl) | exact Rds.of (Rds.ixo (by with_reducible first | exact .z | exact .s .z | exact .s (.s .z) | exact .s (.s (.s .z)) | exact .s (.s (.s (.s .z))) | exact .s (.s (.s (.s (.s .z))))) (by omega)) (by exact rfl)) | exact p_ldn (by exact rfl) (by repeat' first | exact rfl | assumption | exact Rds.bxi | refine Rds.fld ?_ ?_ | exact Rds.ix (by assumption) (by omega) | exact Rds.ixo (by with_reducible first | exact .z | exact .s .z | exact .s (.s .z) | exact .s (.s (.s .z)) | exact .s (.s (.s (.s .z))) | exact .s (.s (.s (.s (.s .z))))) (by omega) | exact Rds.of (Rds.ix (by assumption) (by omega)) (by exact rfl) | exact Rds.of (Rds.ixo (by with_reducible first | exact .z | exact .s .z | exact .s (.s .z) | exact .s (.s (.s .z)) | exact .s (.s (.s (.s .z))) | exact .s (.s (.s (.s (.s .z))))) (by omega)) (by exact rfl)) (by exact rfl) (by exact rfl) | exact p_fa (by exact rfl) (by repeat' first | exact rfl | assumption | exact Rds.bxi | refine Rds.fld ?_ ?_ | exact Rds.ix (by assumption) (by omega) | exact Rds.ixo (by with_reducible first | exact .z | exact .s .z | exact .s (.s .z) | exact .s (.s (.s .z)) | exact .s (.s (.s (.s .z))) | exact .s (.s (.s (.s (.s .z))))) (by omega) | exact Rds.of (Rds.ix (by assumption) (by omega)) (by exact rfl) | exact Rds.of (Rds.ixo (by with_reducible first | exact .z | exact .s .z | exact .s (.s .z) | exact .s (.s (.s .z)) | exact .s (.s (.s (.s .z))) | exact .s (.s (.s (.s (.s .z))))) (by omega)) (by exact rfl)) | exact p_ixs _ rfl rfl rfl (by omega) | exact p_ix _ (by exact rfl) (by exact rfl) (by exact rfl) (by omega) (by repeat' first | exact rfl | assumption | exact Rds.bxi | refine Rds.fld ?_ ?_ | exact Rds.ix (by assumption) (by omega) | exact Rds.ixo (by with_reducible first | exact .z | exact .s .z | exact .s (.s .z) | exact .s (.s (.s .z)) | exact .s (.s (.s (.s .z))) | exact .s (.s (.s (.s (.s .z))))) (by omega) | exact Rds.of (Rds.ix (by assumption) (by omega)) (by exact rfl) | exact Rds.of (Rds.ixo (by with_reducible first | exact .z | exact .s .z | exact .s (.s .z) | exact .s (.s (.s .z)) | exact .s (.s (.s (.s .z))) | exact .s (.s (.s (.s (.s .z))))) (by omega)) (by exact rfl))) ?_
        refine d_take 4 rfl (by kernel_rfl) rfl rfl (p_ixs dn.length rfl rfl (by omega) (by omega)) ?_
        refine d_take 6 rfl (by kernel_rfl) rfl rfl (by first | exact p_move rfl | exact p_assign rfl | exact p_eq rfl rfl | exact p_ne rfl rfl | exact p_lt rfl rfl | exact p_le rfl rfl | exact p_gt rfl rfl | exact p_ge rfl rfl | exact p_pickt rfl rfl | exact p_pickf rfl rfl | exact p_ext rfl rfl | exact p_add rfl rfl (by omega) | exact p_sub rfl rfl (by omega) | exact p_seq rfl rfl | exact p_sne rfl rfl | exact p_nott rfl | exact p_notf rfl | exact p_notd rfl | exact p_not rfl | exact p_lens (by exact rfl) | exact p_lensl (by exact rfl) | exact p_six _ (by exact rfl) (by exact rfl) rfl (by first | omega | exact Nat.zero_lt_succ _) | exact p_sixI (by exact rfl) (by exact rfl) (by omega) | exact p_sslI (by exact rfl) (by exact rfl) (by exact rfl) (by omega) | exact p_ssll _ (by exact rfl) (by exact rfl) rfl (by omega) | exact p_sslh _ (by exact rfl) (by exact rfl) rfl (by omega) | exact p_ssllI (by exact rfl) (by exact rfl) (by omega) | exact p_sslhI (by exact rfl) (by exact rfl) (by omega) | exact p_slnil (by exact rfl) (by exact rfl) | exact p_slnnil (by exact rfl) (by exact rfl) | exact p_max rfl rfl | exact p_min rfl rfl | exact p_ncp rfl | exact p_ncf rfl | exact p_mkfn rfl rfl | exact p_iface (by exact rfl) | exact p_eqs rfl rfl (by exact rfl) | exact p_nes rfl rfl (by exact rfl) | exact p_convss (by exact rfl) | exact p_cat rfl rfl (by first | omega | (simp only [List.length_cons, List.length_nil, List.length_append]; omega)) | exact p_addb8 rfl rfl (by omega) | exact p_addb rfl rfl (by omega) | exact p_subb rfl rfl (by omega) | exact p_addq rfl rfl (by omega) | exact p_addd rfl rfl (by omega) | exact p_b2s1 (by exact rfl) (by with_reducible first | exact .z | exact .s .z | exact .s (.s .z) | exact .s (.s (.s .z)) | exact .s (.s (.s (.s .z))) | exact .s (.s (.s (.s (.s .z))))) (by exact rfl) | exact p_b2s (by exact rfl) (Src.ownu (by with_reducible first | exact .z | exact .s .z | exact .s (.s .z) | exact .s (.s (.s .z)) | exact .s (.s (.s (.s .z))) | exact .s (.s (.s (.s (.s .z)))))) | exact p_conv64 (by exact rfl) (by omega) | exact p_convu64 (by exact rfl) (by omega) | exact p_convbI (by exact rfl) (by omega) | exact p_convu32 (by exact rfl) (by omega) | exact p_remk rfl rfl (by omega) | exact p_quou rfl rfl (by omega) | exact p_quo rfl rfl (by omega) | exact p_rem rfl rfl (by omega) | exact p_neg rfl (by omega) | exact p_build (by exact rfl) (by exact rfl) (by exact rfl) (by exact rfl) | exact p_ld1 (by exact rfl) (Rds.fld Rds.bxi (by exact rfl)) | exact p_ld1 (by exact rfl) (by repeat' first | exact rfl | assumption | exact Rds.bxi | refine Rds.fld ?_ ?_ | exact Rds.ix (by assumption) (by omega) | exact Rds.ixo (by with_reducible first | exact .z | exact .s .z | exact .s (.s .z) | exact .s (.s (.s .z)) | exact .s (.s (.s (.s .z))) | exact .s (.s (.s (.s (.s .z))))) (by omega) | exact Rds.of (Rds.ix (by assumption) (by omega)) (by exact rfl) | exact Rds.of (Rds.ixo (by with_reducible first | exact .z | exact .s .z | exact .s (.s .z) | exact .s (.s (.s .z)) | exact .s (.s (.s (.s .z))) | exact .s (.s (.s (.s (.s .z))))) (by omega)) (by exact rfl)) | exact p_ldn (by exact rfl) (by repeat' first | exact rfl | assumption | exact Rds.bxi | refine Rds.fld ?_ ?_ | exact Rds.ix (by assumption) (by omega) | exact Rds.ixo (by with_reducible first | exact .z | exact .s .z | exact .s (.s .z) | exact .s (.s (.s .z)) | exact .s (.s (.s (.s .z))) | exact .s (.s (.s (.s (.s .z))))) (by omega) | exact Rds.of (Rds.ix (by assumption) (by omega)) (by exact rfl) | exact Rds.of (Rds.ixo (by with_reducible first | exact .z | exact .s .z | exact .s (.s .z) | exact .s (.s (.s .z)) | exact .s (.s (.s (.s .z))) | exact .s (.s (.s (.s (.s .z))))) (by omega)) (by exact rfl)) (by exact rfl) (by exact rfl) | exact p_fa (by exact rfl) (by repeat' first | exact rfl | assumption | exact Rds.bxi | refine Rds.fld ?_ ?_ | exact Rds.ix (by assumption) (by omega) | exact Rds.ixo (by with_reducible first | exact .z | exact .s .z | exact .s (.s .z) | exact .s (.s (.s .z)) | exact .s (.s (.s (.s .z))) | exact .s (.s (.s (.s (.s .z))))) (by omega) | exact Rds.of (Rds.ix (by assumption) (by omega)) (by exact rfl) | exact Rds.of (Rds.ixo (by with_reducible first | exact .z | exact .s .z | exact .s (.s .z) | exact .s (.s (.s .z)) | exact .s (.s (.s (.s .z))) | exact .s (.s (.s (.s (.s .z))))) (by omega)) (by exact rfl)) | exact p_ixs _ rfl rfl rfl (by omega) | exact p_ix _ (by exact rfl) (by exact rfl) (by exact rfl) (by omega) (by repeat' first | exact rfl | assumption | exact Rds.bxi | refine Rds.fld ?_ ?_ | exact Rds.ix (by assumption) (by omega) | exact Rds.ixo (by with_reducible first | exact .z | exact .s .z | exact .s (.s .z) | exact .s (.s (.s .z)) | exact .s (.s (.s (.s .z))) | exact .s (.s (.s (.s (.s .z))))) (by omega) | exact Rds.of (Rds.ix (by assumption) (by omega)) (by exact rfl) | exact Rds.of (Rds.ixo (by with_reducible first | exact .z | exact .s .z | exact .s (.s .z) | exact .s (.s (.s .z)) | exact .s (.s (.s (.s .z))) | exact .s (.s (.s (.s (.s .z))))) (by omega)) (by exact rfl))) ?_
        refine d_take 7 rfl (by kernel_rfl) rfl rfl (by first | exact p_move rfl | exact p_assign rfl | exact p_eq rfl rfl | exact p_ne rfl rfl | exact p_lt rfl rfl | exact p_le rfl rfl | exact p_gt rfl rfl | exact p_ge rfl rfl | exact p_pickt rfl rfl | exact p_pickf rfl rfl | exact p_ext rfl rfl | exact p_add rfl rfl (by omega) | exact p_sub rfl rfl (by omega) | exact p_seq rfl rfl | exact p_sne rfl rfl | exact p_nott rfl | exact p_notf rfl | exact p_notd rfl | exact p_not rfl | exact p_lens (by exact rfl) | exact p_lensl (by exact rfl) | exact p_six _ (by exact rfl) (by exact rfl) rfl (by first | omega | exact Nat.zero_lt_succ _) | exact p_sixI (by exact rfl) (by exact rfl) (by omega) | exact p_sslI (by exact rfl) (by exact rfl) (by exact rfl) (by omega) | exact p_ssll _ (by exact rfl) (by exact rfl) rfl (by omega) | exact p_sslh _ (by exact rfl) (by exact rfl) rfl (by omega) | exact p_ssllI (by exact rfl) (by exact rfl) (by omega) | exact p_sslhI (by exact rfl) (by exact rfl) (by omega) | exact p_slnil (by exact rfl) (by exact rfl) | exact p_slnnil (by exact rfl) (by exact rfl) | exact p_max rfl rfl | exact p_min rfl rfl | exact p_ncp rfl | exact p_ncf rfl | exact p_mkfn rfl rfl | exact p_iface (by exact rfl) | exact p_eqs rfl rfl (by exact rfl) | exact p_nes rfl rfl (by exact rfl) | exact p_convss (by exact rfl) | exact p_cat rfl rfl (by first | omega | (simp only [List.length_cons, List.length_nil, List.length_append]; omega)) | exact p_addb8 rfl rfl (by omega) | exact p_addb rfl rfl (by omega) | exact p_subb rfl rfl (by omega) | exact p_addq rfl rfl (by omega) | exact p_addd rfl rfl (by omega) | exact p_b2s1 (by exact rfl) (by with_reducible first | exact .z | exact .s .z | exact .s (.s .z) | exact .s (.s (.s .z)) | exact .s (.s (.s (.s .z))) | exact .s (.s (.s (.s (.s .z))))) (by exact rfl) | exact p_b2s (by exact rfl) (Src.ownu (by with_reducible first | exact .z | exact .s .z | exact .s (.s .z) | exact .s (.s (.s .z)) | exact .s (.s (.s (.s .z))) | exact .s (.s (.s (.s (.s .z)))))) | exact p_conv64 (by exact rfl) (by omega) | exact p_convu64 (by exact rfl) (by omega) | exact p_convbI (by exact rfl) (by omega) | exact p_convu32 (by exact rfl) (by omega) | exact p_remk rfl rfl (by omega) | exact p_quou rfl rfl (by omega) | exact p_quo rfl rfl (by omega) | exact p_rem rfl rfl (by omega) | exact p_neg rfl (by omega) | exact p_build (by exact rfl) (by exact rfl) (by exact rfl) (by exact rfl) | exact p_ld1 (by exact rfl) (Rds.fld Rds.bxi (by exact rfl)) | exact p_ld1 (by exact rfl) (by repeat' first | exact rfl | assumption | exact Rds.bxi | refine Rds.fld ?_ ?_ | exact Rds.ix (by assumption) (by omega) | exact Rds.ixo (by with_reducible first | exact .z | exact .s .z | exact .s (.s .z) | exact .s (.s (.s .z)) | exact .s (.s (.s (.s .z))) | exact .s (.s (.s (.s (.s .z))))) (by omega) | exact Rds.of (Rds.ix (by assumption) (by omega)) (by exact rfl) | exact Rds.of (Rds.ixo (by with_reducible first | exact .z | exact .s .z | exact .s (.s .z) | exact .s (.s (.s .z)) | exact .s (.s (.s (.s .z))) | exact .s (.s (.s (.s (.s .z))))) (by omega)) (by exact rfl)) | exact p_ldn (by exact rfl) (by repeat' first | exact rfl | assumption | exact Rds.bxi | refine Rds.fld ?_ ?_ | exact Rds.ix (by assumption) (by omega) | exact Rds.ixo (by with_reducible first | exact .z | exact .s .z | exact .s (.s .z) | exact .s (.s (.s .z)) | exact .s (.s (.s (.s .z))) | exact .s (.s (.s (.s (.s .z))))) (by omega) | exact Rds.of (Rds.ix (by assumption) (by omega)) (by exact rfl) | exact Rds.of (Rds.ixo (by with_reducible first | exact .z | exact .s .z | exact .s (.s .z) | exact .s (.s (.s .z)) | exact .s (.s (.s (.s .z))) | exact .s (.s (.s (.s (.s .z))))) (by omega)) (by exact rfl)) (by exact rfl) (by exact rfl) | exact p_fa (by exact rfl) (by repeat' first | exact rfl | assumption | exact Rds.bxi | refine Rds.fld ?_ ?_ | exact Rds.ix (by assumption) (by omega) | exact Rds.ixo (by with_reducible first | exact .z | exact .s .z | exact .s (.s .z) | exact .s (.s (.s .z)) | exact .s (.s (.s (.s .z))) | exact .s (.s (.s (.s (.s .z))))) (by omega) | exact Rds.of (Rds.ix (by assumption) (by omega)) (by exact rfl) | exact Rds.of (Rds.ixo (by with_reducible first | exact .z | exact .s .z | exact .s (.s .z) | exact .s (.s (.s .z)) | exact .s (.s (.s (.s .z))) | exact .s (.s (.s (.s (.s .z))))) (by omega)) (by exact rfl)) | exact p_ixs _ rfl rfl rfl (by omega) | exact p_ix _ (by exact rfl) (by exact rfl) (by exact rfl) (by omega) (by repeat' first | exact rfl | assumption | exact Rds.bxi | refine Rds.fld ?_ ?_ | exact Rds.ix (by assumption) (by omega) | exact Rds.ixo (by with_reducible first | exact .z | exact .s .z | exact .s (.s .z) | exact .s (.s (.s .z)) | exact .s (.s (.s (.s .z))) | exact .s (.s (.s (.s (.s .z))))) (by omega) | exact Rds.of (Rds.ix (by assumption) (by omega)) (by exact rfl) | exact Rds.of (Rds.ixo (by with_reducible first | exact .z | exact .s .z | exact .s (.s .z) | exact .s (.s (.s .z)) | exact .s (.s (.s (.s .z))) | exact .s (.s (.s (.s (.s .z))))) (by omega)) (by exact rfl))) ?_
        refine d_take 8 rfl (by kernel_rfl) rfl rfl (by first | exact p_move rfl | exact p_assign rfl | exact p_eq rfl rfl | exact p_ne rfl rfl | exact p_lt rfl rfl | exact p_le rfl rfl | exact p_gt rfl rfl | exact p_ge rfl rfl | exact p_pickt rfl rfl | exact p_pickf rfl rfl | exact p_ext rfl rfl | exact p_add rfl rfl (by omega) | exact p_sub rfl rfl (by omega) | exact p_seq rfl rfl | exact p_sne rfl rfl | exact p_nott rfl | exact p_notf rfl | exact p_notd rfl | exact p_not rfl | exact p_lens (by exact rfl) | exact p_lensl (by exact rfl) | exact p_six _ (by exact rfl) (by exact rfl) rfl (by first | omega | exact Nat.zero_lt_succ _) | exact p_sixI (by exact rfl) (by exact rfl) (by omega) | exact p_sslI (by exact rfl) (by exact rfl) (by exact rfl) (by omega) | exact p_ssll _ (by exact rfl) (by exact rfl) rfl (by omega) | exact p_sslh _ (by exact rfl) (by exact rfl) rfl (by omega) | exact p_ssllI (by exact rfl) (by exact rfl) (by omega) | exact p_sslhI (by exact rfl) (by exact rfl) (by omega) | exact p_slnil (by exact rfl) (by exact rfl) | exact p_slnnil (by exact rfl) (by exact rfl) | exact p_max rfl rfl | exact p_min rfl rfl | exact p_ncp rfl | exact p_ncf rfl | exact p_mkfn rfl rfl | exact p_iface (by exact rfl) | exact p_eqs rfl rfl (by exact rfl) | exact p_nes rfl rfl (by exact rfl) | exact p_convss (by exact rfl) | exact p_cat rfl rfl (by first | omega | (simp only [List.length_cons, List.length_nil, List.length_append]; omega)) | exact p_addb8 rfl rfl (by omega) | exact p_addb rfl rfl (by omega) | exact p_subb rfl rfl (by omega) | exact p_addq rfl rfl (by omega) | exact p_addd rfl rfl (by omega) | exact p_b2s1 (by exact rfl) (by with_reducible first | exact .z | exact .s .z | exact .s (.s .z) | exact .s (.s (.s .z)) | exact .s (.s (.s (.s .z))) | exact .s (.s (.s (.s (.s .z))))) (by exact rfl) | exact p_b2s (by exact rfl) (Src.ownu (by with_reducible first | exact .z | exact .s .z | exact .s (.s .z) | exact .s (.s (.s .z)) | exact .s (.s (.s (.s .z))) | exact .s (.s (.s (.s (.s .z)))))) | exact p_conv64 (by exact rfl) (by omega) | exact p_convu64 (by exact rfl) (by omega) | exact p_convbI (by exact rfl) (by omega) | exact p_convu32 (by exact rfl) (by omega) | exact p_remk rfl rfl (by omega) | exact p_quou rfl rfl (by omega) | exact p_quo rfl rfl (by omega) | exact p_rem rfl rfl (by omega) | exact p_neg rfl (by omega) | exact p_build (by exact rfl) (by exact rfl) (by exact rfl) (by exact rfl) | exact p_ld1 (by exact rfl) (Rds.fld Rds.bxi (by exact rfl)) | exact p_ld1 (by exact rfl) (by repeat' first | exact rfl | assumption | exact Rds.bxi | refine Rds.fld ?_ ?_ | exact Rds.ix (by assumption) (by omega) | exact Rds.ixo (by with_reducible first | exact .z | exact .s .z | exact .s (.s .z) | exact .s (.s (.s .z)) | exact .s (.s (.s (.s .z))) | exact .s (.s (.s (.s (.s .z))))) (by omega) | exact Rds.of (Rds.ix (by assumption) (by omega)) (by exact rfl) | exact Rds.of (Rds.ixo (by with_reducible first | exact .z | exact .s .z | exact .s (.s .z) | exact .s (.s (.s .z)) | exact .s (.s (.s (.s .z))) | exact .s (.s (.s (.s (.s .z))))) (by omega)) (by exact rfl)) | exact p_ldn (by exact rfl) (by repeat' first | exact rfl | assumption | exact Rds.bxi | refine Rds.fld ?_ ?_ | exact Rds.ix (by assumption) (by omega) | exact Rds.ixo (by with_reducible first | exact .z | exact .s .z | exact .s (.s .z) | exact .s (.s (.s .z)) | exact .s (.s (.s (.s .z))) | exact .s (.s (.s (.s (.s .z))))) (by omega) | exact Rds.of (Rds.ix (by assumption) (by omega)) (by exact rfl) | exact Rds.of (Rds.ixo (by with_reducible first | exact .z | exact .s .z | exact .s (.s .z) | exact .s (.s (.s .z)) | exact .s (.s (.s (.s .z))) | exact .s (.s (.s (.s (.s .z))))) (by omega)) (by exact rfl)) (by exact rfl) (by exact rfl) | exact p_fa (by exact rfl) (by repeat' first | exact rfl | assumption | exact Rds.bxi | refine Rds.fld ?_ ?_ | exact Rds.ix (by assumption) (by omega) | exact Rds.ixo (by with_reducible first | exact .z | exact .s .z | exact .s (.s .z) | exact .s (.s (.s .z)) | exact .s (.s (.s (.s .z))) | exact .s (.s (.s (.s (.s .z))))) (by omega) | exact Rds.of (Rds.ix (by assumption) (by omega)) (by exact rfl) | exact Rds.of (Rds.ixo (by with_reducible first | exact .z | exact .s .z | exact .s (.s .z) | exact .s (.s (.s .z)) | exact .s (.s (.s (.s .z))) | exact .s (.s (.s (.s (.s .z))))) (by omega)) (by exact rfl)) | exact p_ixs _ rfl rfl rfl (by omega) | exact p_ix _ (by exact rfl) (by exact rfl) (by exact rfl) (by omega) (by repeat' first | exact rfl | assumption | exact Rds.bxi | refine Rds.fld ?_ ?_ | exact Rds.ix (by assumption) (by omega) | exact Rds.ixo (by with_reducible first | exact .z | exact .s .z | exact .s (.s .z) | exact .s (.s (.s .z)) | exact .s (.s (.s (.s .z))) | exact .s (.s (.s (.s (.s .z))))) (by omega) | exact Rds.of (Rds.ix (by assumption) (by omega)) (by exact rfl) | exact Rds.of (Rds.ixo (by with_reducible first | exact .z | exact .s .z | exact .s (.s .z) | exact .s (.s (.s .z)) | exact .s (.s (.s (.s .z))) | exact .s (.s (.s (.s (.s .z))))) (by omega)) (by exact rfl))) ?_
        have hld : ∀ L, Has (own 1 Sp.es 9 (.slice (some ⟨g, 0, none⟩) (dn.length + 1) cc) (dn ++ [cur])) L → Rds σ L (ixp (.slice (some ⟨g, 0, none⟩) (dn.length + 1) cc) 1 dn.length) [st cur] := fun L h => Rds.of (Rds.ixo h (k := dn.length) (by simp)) (by simp [Sp.es])
        refine d_br2 (i := 5) (i' := 9) (by kernel_rfl) rfl rfl ?_ ?_
        · refine l_p rfl rfl (p_ld1 (by exact rfl) (hld _ (by first | exact .z | exact .s .z))) ?_
          refine l_nil ?_
          refine d_go (fun w hI => by first | exact hI.tail | exact hI.tail.tail) ?_
          refine d_br1 (i := 9) (by kernel_rfl) rfl ?_
          refine l_bsl (by exact rfl) (by exact rfl) (by exact rfl) (by exact rfl) (by exact rfl) (by exact rfl) (by exact rfl) ?_; intro _
          refine l_nil ?_
          refine d_go (fun w hI => by first | exact hI.tail | exact hI.tail.tail) ?_
          refine d_br1 (i := 10) (by kernel_rfl) rfl ?_
          refine l_p rfl rfl (p_b2s1 (by exact rfl) .z (by exact rfl)) ?_
          refine l_nil ?_
          refine d_go (fun w hI => by first | exact hI.tail | exact hI.tail.tail) ?_
          refine d_br1 (i := 11) (by kernel_rfl) rfl ?_
          refine l_p rfl rfl (p_cat rfl rfl (by simp only [List.length_cons, List.length_nil, List.length_append]; omega)) ?_
          refine l_nil ?_
          refine d_go (fun w hI => by first | exact hI.tail | exact hI.tail.tail) ?_
          refine d_br1 (i := 12) (by kernel_rfl) rfl ?_
          refine l_p rfl rfl (p_ixs dn.length rfl rfl (by omega) (by omega)) ?_
          refine l_nil ?_
          refine d_go (fun w hI => by first | exact hI.tail | exact hI.tail.tail) ?_
          refine d_br1 (i := 13) (by kernel_rfl) rfl ?_
          refine l_sto (enc := Sp.es) dn.length 0 (cur ++ [s[n]]) rfl rfl (padd0 _) rfl rfl rfl (by exact rfl) (by simp) (by simp [Sp.es]; rfl) (.s .z) ?_
          refine l_nil ?_
          refine d_go (fun w hI => hI.tail.tail) ?_
          refine d_done (by kernel_rfl) ?_
          refine t_blk ?_
          refine t_region ?_
          refine l_p rfl rfl (p_move rfl) ?_
          refine l_p rfl rfl (p_add rfl rfl (by omega)) ?_
          refine l_p rfl rfl (p_assign rfl) ?_
          refine l_nil ?_
          exact t_round (n + 1, dn, cur ++ [s[n]], _, cc, _ :: R) ⟨rfl, rfl, rfl, rfl, gi rfl (by omega), trivial⟩ ⟨h1, by simp only; omega, by simp only; omega, by simp; omega⟩ (by show s.length - (n + 1) < s.length - n; omega) (fun w hI => Inv.oc rfl (by simp) (hI.perm (.swap ..)))
        · refine l_bsl (by exact rfl) (by exact rfl) (by exact rfl) (by exact rfl) (by exact rfl) (by exact rfl) (by exact rfl) ?_; intro _
          refine l_nil ?_
          refine d_go (fun w hI => by first | exact hI.tail | exact hI.tail.tail) ?_
          refine d_br2 (i := 5) (i' := 10) (by kernel_rfl) rfl rfl ?_ ?_
          · refine l_p rfl rfl (p_ld1 (by exact rfl) (hld _ (by first | exact .z | exact .s .z))) ?_
            refine l_nil ?_
            refine d_go (fun w hI => by first | exact hI.tail | exact hI.tail.tail) ?_
            refine d_br1 (i := 10) (by kernel_rfl) rfl ?_
            refine l_p rfl rfl (p_b2s1 (by exact rfl) .z (by exact rfl)) ?_
            refine l_nil ?_
            refine d_go (fun w hI => by first | exact hI.tail | exact hI.tail.tail) ?_
            refine d_br1 (i := 11) (by kernel_rfl) rfl ?_
            refine l_p rfl rfl (p_cat rfl rfl (by simp only [List.length_cons, List.length_nil, List.length_append]; omega)) ?_
            refine l_nil ?_
            refine d_go (fun w hI => by first | exact hI.tail | exact hI.tail.tail) ?_
            refine d_br1 (i := 12) (by kernel_rfl) rfl ?_
            refine l_p rfl rfl (p_ixs dn.length rfl rfl (by omega) (by omega)) ?_
            refine l_nil ?_
            refine d_go (fun w hI => by first | exact hI.tail | exact hI.tail.tail) ?_
            refine d_br1 (i := 13) (by kernel_rfl) rfl ?_
            refine l_sto (enc := Sp.es) dn.length 0 (cur ++ [s[n]]) rfl rfl (padd0 _) rfl rfl rfl (by exact rfl) (by simp) (by simp [Sp.es]; rfl) (.s .z) ?_
            refine l_nil ?_
            refine d_go (fun w hI => hI.tail.tail) ?_
            refine d_done (by kernel_rfl) ?_
            refine t_blk ?_
            refine t_region ?_
            refine l_p rfl rfl (p_move rfl) ?_
            refine l_p rfl rfl (p_add rfl rfl (by omega)) ?_
            refine l_p rfl rfl (p_assign rfl) ?_
            refine l_nil ?_
            exact t_round (n + 1, dn, cur ++ [s[n]], _, cc, _ :: R) ⟨rfl, rfl, rfl, rfl, gi rfl (by omega), trivial⟩ ⟨h1, by simp only; omega, by simp only; omega, by simp; omega⟩ (by show s.length - (n + 1) < s.length - n; omega) (fun w hI => Inv.oc rfl (by simp) (hI.perm (.swap ..)))
          · refine l_p rfl rfl (p_b2s1 (by exact rfl) .z (by exact rfl)) ?_
            refine l_nil ?_
            refine d_go (fun w hI => by first | exact hI.tail | exact hI.tail.tail) ?_
            refine d_br1 (i := 5) (by kernel_rfl) rfl ?_
            refine l_p rfl rfl (p_ld1 (by exact rfl) (hld _ (by first | exact .z | exact .s .z))) ?_
            refine l_nil ?_
            refine d_go (fun w hI => by first | exact hI.tail | exact hI.tail.tail) ?_
            refine d_br1 (i := 11) (by kernel_rfl) rfl ?_
            refine l_p rfl rfl (p_cat rfl rfl (by simp only [List.length_cons, List.length_nil, List.length_append]; omega)) ?_
            refine l_nil ?_
            refine d_go (fun w hI => by first | exact hI.tail | exact hI.tail.tail) ?_
            refine d_br1 (i := 12) (by kernel_rfl) rfl ?_
            refine l_p rfl rfl (p_ixs dn.length rfl rfl (by omega) (by omega)) ?_
            refine l_nil ?_
            refine d_go (fun w hI => by first | exact hI.tail | exact hI.tail.tail) ?_
            refine d_br1 (i := 13) (by kernel_rfl) rfl ?_
            refine l_sto (enc := Sp.es) dn.length 0 (cur ++ [s[n]]) rfl rfl (padd0 _) rfl rfl rfl (by exact rfl) (by simp) (by simp [Sp.es]; rfl) (.s .z) ?_
            refine l_nil ?_
            refine d_go (fun w hI => hI.tail.tail) ?_
            refine d_done (by kernel_rfl) ?_
            refine t_blk ?_
            refine t_region ?_
            refine l_p rfl rfl (p_move rfl) ?_
            refine l_p rfl rfl (p_add rfl rfl (by omega)) ?_
            refine l_p rfl rfl (p_assign rfl) ?_
            refine l_nil ?_
            exact t_round (n + 1, dn, cur ++ [s[n]], _, cc, _ :: R) ⟨rfl, rfl, rfl, rfl, gi rfl (by omega), trivial⟩ ⟨h1, by simp only; omega, by simp only; omega, by simp; omega⟩ (by show s.length - (n + 1) < s.length - n; omega) (fun w hI => Inv.oc rfl (by simp) (hI.perm (.swap ..)))
  · have hn : n = s.length := by omega
    subst hn
    simp [pieces, glue] at h1
    refine t_exit rfl ?_
    refine t_seq ?_
    refine t_region ?_
    refine l_p rfl rfl (p_move rfl) ?_
    refine l_p rfl rfl (p_assign rfl) ?_
    refine l_nil ?_
    refine t_fzo .z fun σ' hσ hS => ?_
    exact t_ret1 rfl rfl fun w hI => ⟨σ', hσ, by rw [← h1]; exact hS, hI.dropN R⟩
end Go.Proofs.YtfglenbfbcckjaaGreatDoor
