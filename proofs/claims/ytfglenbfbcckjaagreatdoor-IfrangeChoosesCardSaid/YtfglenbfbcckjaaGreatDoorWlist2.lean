/- Lists of the document's: walks. -/
import Derived.Test.YtfglenbfbcckjaaGreatDoorWlist
set_option linter.unusedSimpArgs false
set_option linter.unusedVariables false
set_option maxRecDepth 20000
namespace Go.Proofs.YtfglenbfbcckjaaGreatDoor
open Go.Sp
attribute [local irreducible] Go.Sp.Pr Go.Sp.Ws Go.Sp.Wl Go.Sp.Wq Go.Sp.Rds Go.Sp.Src
theorem rlist {σ : Stb} {A0 : Option Addr} {n0 c0 : Nat} {l : List (List UInt8)} (hS : Sl σ 1 Sp.es (.slice A0 n0 c0) l) (hl : l.length ≤ 4000000001) (hp : ∀ p ∈ l, p.length ≤ 4000000000) : Sp0 Tryz.prog 42 [.slice A0 n0 c0] σ fun v σ' => ListR σ' v (lst true [] l) := by
  have hn := hS.len
  subst hn
  refine sp0 Tryz.func42 rfl (by kernel_rfl) rfl fun F => ?_
  refine t_seq ?_
  refine t_region ?_
  refine l_p rfl rfl (p_assign rfl) ?_
  refine l_p rfl rfl (p_assign rfl) ?_
  refine l_nil ?_
  refine t_seq ?_
  refine t_region ?_
  refine l_p rfl rfl (p_assign rfl) ?_
  refine l_nil ?_
  refine t_seq ?_
  refine t_seq ?_
  refine t_region ?_
  refine l_p rfl rfl (p_move rfl) ?_
  refine l_p rfl rfl (p_lensl (by exact rfl)) ?_
  refine l_p rfl rfl (p_move rfl) ?_
  refine l_nil ?_
  refine t_block ?_
  refine t_loop (ι := Nat × List (List UInt8) × Option Addr × Nat × List Res) { E := fun i => [(0, .slice A0 l.length c0), (8, .slice A0 l.length c0), (9, i64 l.length), (10, i64 i.1), (4, .slice i.2.2.1 i.2.1.length i.2.2.2.1)], S := fun _ => σ, M := fun i => own 1 Sp.es 9 (.slice i.2.2.1 i.2.1.length i.2.2.2.1) i.2.1 :: (i.2.2.2.2 ++ F), Φ := fun i => lst (decide (i.1 = 0)) i.2.1 (l.drop i.1) = lst true [] l ∧ i.1 ≤ l.length ∧ i.2.1.length ≤ i.1 }
    (fun i => l.length - i.1) (0, [], none, 0, [])
    (by exact ⟨rfl, rfl, rfl, rfl, rfl, trivial⟩) ⟨by simp, by simp, by simp⟩ (fun w hI => hI.own0 ..) ?_
  rintro ⟨i, out, A, cc, R⟩ ⟨h1, h2, h3⟩
  dsimp only at h1 h2 h3 ⊢
  refine t_seq ?_
  refine t_region ?_
  refine l_p rfl rfl (p_lt rfl rfl) ?_
  refine l_nil ?_
  refine t_seq ?_
  refine t_ifd rfl (fun h => ?_) (fun h => ?_)
  · have hi : i < l.length := by omega
    have hpl := hp l[i] (List.getElem_mem hi)
    rw [drop_cons l i hi, lst] at h1
    have hr : (l.drop (i + 1) = []) ↔ i + 1 = l.length := by rw [List.drop_eq_nil_iff]; omega
    refine t_skip ?_
    refine t_seq ?_
    refine t_block ?_
    refine t_seq ?_
    refine t_region ?_
    refine l_p rfl rfl (p_move rfl) ?_
    refine l_p rfl rfl (p_ix _ (by exact rfl) (by exact rfl) (by exact rfl) (by omega) (Rds.ix (by assumption) (by omega))) ?_
    refine l_p rfl rfl (p_ld1 (by exact rfl) (Rds.of (Rds.ix (by assumption) (by omega)) (by exact rfl))) ?_
    refine l_p rfl rfl (p_assign rfl) ?_
    refine l_p rfl rfl (p_assign rfl) ?_
    refine l_nil ?_
    refine t_seq ?_
    refine t_region ?_
    refine l_p rfl rfl (p_move rfl) ?_
    generalize hpi : l[i] = p at *
    have htl := trim_len p
    refine l_callv rfl rfl rfl (rtrim σ p (by omega)) ?_
    refine l_p rfl rfl (p_assign rfl) ?_
    refine l_nil ?_
    refine t_seq ?_
    refine t_seq ?_
    refine t_region ?_
    refine l_p rfl rfl (p_move rfl) ?_
    refine l_p rfl rfl (p_seq rfl rfl) ?_
    refine l_nil ?_
    refine t_ifd rfl (fun h4 => ?_) (fun h4 => ?_)
    · rw [if_pos h4] at h1
      refine t_seq ?_
      refine t_cut (ι := Unit) { E := fun _ => [(0, .slice A0 l.length c0), (8, .slice A0 l.length c0), (9, i64 l.length), (10, i64 i), (4, .slice A out.length cc)], S := fun _ => σ, M := fun _ => own 1 Sp.es 9 (.slice A out.length cc) out :: (R ++ F), Φ := fun _ => ¬ (l.length = 1 ∧ p ≠ []) } ?_ ?_
      · refine t_seq ?_
        refine t_region ?_
        refine l_p rfl rfl (p_move rfl) ?_
        refine l_p rfl rfl (p_lensl (by exact rfl)) ?_
        refine l_p rfl rfl (p_eq rfl rfl) ?_
        refine l_p rfl rfl (p_move rfl) ?_
        refine l_split 22 rfl (fun h5 => ?_) (fun h5 => ?_)
        · refine l_p rfl rfl (p_move rfl) ?_
          refine l_p rfl rfl (p_sne rfl rfl) ?_
          refine l_p rfl rfl (p_pickt rfl rfl) ?_
          refine l_nil ?_
          refine t_ifd rfl (fun h6 => ?_) (fun h6 => ?_)
          · rw [if_pos ⟨by simp; omega, hr.2 (by omega), h6⟩] at h1
            refine t_seq ?_
            refine t_region ?_
            refine l_p rfl rfl (p_assign rfl) ?_
            refine l_p rfl rfl (p_assign rfl) ?_
            refine l_nil ?_
            exact t_ret2 rfl rfl rfl fun w hI => ⟨σ, .refl σ, ⟨_, by rw [← h1]; rfl, by rw [← h1]; exact Sl.nil ..⟩, hI.tail.dropN R⟩
          · refine t_skip ?_
            exact t_back () ⟨rfl, rfl, rfl, rfl, rfl, trivial⟩ (fun h => h6 h.2) (fun w hI => hI)
        · refine l_skip rfl rfl ?_
          refine l_skip rfl rfl ?_
          refine l_p rfl rfl (p_pickf rfl rfl) ?_
          refine l_nil ?_
          refine t_iff rfl ?_
          refine t_skip ?_
          exact t_back () ⟨rfl, rfl, rfl, rfl, rfl, trivial⟩ (fun h => by omega) (fun w hI => hI)
      · intro _ hc
        dsimp only at hc ⊢
        rw [if_neg (by rintro ⟨h5, h6, h7⟩; have h5 := of_decide_eq_true h5; exact hc ⟨by have := hr.1 h6; omega, h7⟩)] at h1
        refine t_exit rfl ?_
        refine t_region ?_
        refine l_p rfl rfl (p_add rfl rfl (by omega)) ?_
        refine l_p rfl rfl (p_move rfl) ?_
        refine l_nil ?_
        exact t_round (i + 1, out, A, cc, R) ⟨rfl, rfl, rfl, gi rfl (by omega), rfl, trivial⟩ ⟨by simpa using h1, by simp only; omega, by simp only; omega⟩ (by show l.length - (i + 1) < l.length - i; omega) (fun w hI => hI)
    · rw [if_neg h4] at h1
      refine t_skip ?_
      have hp0 := trim_ne h4
      rw [headBl_eq hp0, lastBl_eq hp0] at h1
      have e : ((p.length : Int) - 1).toNat = p.length - 1 := by omega
      refine t_seq ?_
      refine t_cut (ι := Unit) { E := fun _ => [(7, st (trim p)), (0, .slice A0 l.length c0), (8, .slice A0 l.length c0), (9, i64 l.length), (10, i64 i), (4, .slice A out.length cc)], S := fun _ => σ, M := fun _ => own 1 Sp.es 9 (.slice A out.length cc) out :: (R ++ F), Φ := fun _ => ¬ (decide (i = 0) = true ∧ isBl p[0] = true ∨ l.drop (i + 1) = [] ∧ isBl p[p.length - 1] = true) } ?_ ?_
      · refine t_seq ?_
        refine t_region ?_
        refine l_p rfl rfl (p_move rfl) ?_
        refine l_p rfl rfl (p_eq rfl rfl) ?_
        refine l_p rfl rfl (p_move rfl) ?_
        refine l_split 28 rfl (fun h5 => ?_) (fun h5 => ?_)
        · refine l_p rfl rfl (p_move rfl) ?_
          refine l_p rfl rfl (p_six _ (by exact rfl) (by exact rfl) rfl (by omega)) ?_
          refine l_callv rfl rfl rfl (rblank _ _) ?_
          refine l_p rfl rfl (p_pickt rfl rfl) ?_
          refine l_p rfl rfl (p_move rfl) ?_
          refine l_splitb 33 rfl (fun h6 => ?_) (fun h6 => ?_)
          · rw [if_pos (.inl ⟨by simp; omega, h6⟩)] at h1
            refine l_skip rfl rfl ?_
            refine l_skip rfl rfl ?_
            refine l_skip rfl rfl ?_
            refine l_skip rfl rfl ?_
            refine l_skip rfl rfl ?_
            refine l_skip rfl rfl ?_
            refine l_skip rfl rfl ?_
            refine l_skip rfl rfl ?_
            refine l_skip rfl rfl ?_
            refine l_skip rfl rfl ?_
            refine l_skip rfl rfl ?_
            refine l_skip rfl rfl ?_
            refine l_skip rfl rfl ?_
            refine l_p rfl rfl (p_pickt rfl rfl) ?_
            refine l_nil ?_
            refine t_ift rfl ?_
            refine t_seq ?_
            refine t_region ?_
            refine l_p rfl rfl (p_assign rfl) ?_
            refine l_p rfl rfl (p_assign rfl) ?_
            refine l_nil ?_
            exact t_ret2 rfl rfl rfl fun w hI => ⟨σ, .refl σ, ⟨_, by rw [← h1]; rfl, by rw [← h1]; exact Sl.nil ..⟩, hI.tail.dropN R⟩
          refine l_p rfl rfl (p_move rfl) ?_
          refine l_p rfl rfl (p_move rfl) ?_
          refine l_p rfl rfl (p_lensl (by exact rfl)) ?_
          refine l_p rfl rfl (p_sub rfl rfl (by omega)) ?_
          refine l_p rfl rfl (p_eq rfl rfl) ?_
          refine l_p rfl rfl (p_move rfl) ?_
          refine l_split 39 rfl (fun h7 => ?_) (fun h7 => ?_)
          · refine l_p rfl rfl (p_move rfl) ?_
            refine l_p rfl rfl (p_move rfl) ?_
            refine l_p rfl rfl (p_lens (by exact rfl)) ?_
            refine l_p rfl rfl (p_sub rfl rfl (by omega)) ?_
            refine l_p rfl rfl (p_sixI (by exact rfl) (by exact rfl) (by omega)) ?_
            refine l_callv rfl rfl rfl (rblank _ _) ?_
            refine l_p rfl rfl (p_pickt rfl rfl) ?_
            refine l_p rfl rfl (p_pickf rfl rfl) ?_
            refine l_nil ?_
            simp only [e]
            refine t_if rfl (fun h8 => ?_) (fun h8 => ?_)
            · rw [if_pos (.inr ⟨hr.2 (by omega), h8⟩)] at h1
              refine t_seq ?_
              refine t_region ?_
              refine l_p rfl rfl (p_assign rfl) ?_
              refine l_p rfl rfl (p_assign rfl) ?_
              refine l_nil ?_
              exact t_ret2 rfl rfl rfl fun w hI => ⟨σ, .refl σ, ⟨_, by rw [← h1]; rfl, by rw [← h1]; exact Sl.nil ..⟩, hI.tail.dropN R⟩
            · refine t_skip ?_
              exact t_back () ⟨rfl, rfl, rfl, rfl, rfl, rfl, trivial⟩ (by simp [show isBl p[0] = false from h6, h8]) (fun w hI => hI)
          · refine l_skip rfl rfl ?_
            refine l_skip rfl rfl ?_
            refine l_skip rfl rfl ?_
            refine l_skip rfl rfl ?_
            refine l_skip rfl rfl ?_
            refine l_skip rfl rfl ?_
            refine l_p rfl rfl (p_pickf rfl rfl) ?_
            refine l_p rfl rfl (p_pickf rfl rfl) ?_
            refine l_nil ?_
            refine t_iff rfl ?_
            refine t_skip ?_
            exact t_back () ⟨rfl, rfl, rfl, rfl, rfl, rfl, trivial⟩ (by rintro (h | h); (have h := h.2; rw [show isBl p[0] = false from h6] at h; cases h); (have := hr.1 h.1; omega)) (fun w hI => hI)
        · refine l_skip rfl rfl ?_
          refine l_skip rfl rfl ?_
          refine l_skip rfl rfl ?_
          refine l_p rfl rfl (p_pickf rfl rfl) ?_
          refine l_p rfl rfl (p_move rfl) ?_
          refine l_p rfl rfl (p_move rfl) ?_
          refine l_p rfl rfl (p_move rfl) ?_
          refine l_p rfl rfl (p_lensl (by exact rfl)) ?_
          refine l_p rfl rfl (p_sub rfl rfl (by omega)) ?_
          refine l_p rfl rfl (p_eq rfl rfl) ?_
          refine l_p rfl rfl (p_move rfl) ?_
          refine l_split 39 rfl (fun h7 => ?_) (fun h7 => ?_)
          · refine l_p rfl rfl (p_move rfl) ?_
            refine l_p rfl rfl (p_move rfl) ?_
            refine l_p rfl rfl (p_lens (by exact rfl)) ?_
            refine l_p rfl rfl (p_sub rfl rfl (by omega)) ?_
            refine l_p rfl rfl (p_sixI (by exact rfl) (by exact rfl) (by omega)) ?_
            refine l_callv rfl rfl rfl (rblank _ _) ?_
            refine l_p rfl rfl (p_pickt rfl rfl) ?_
            refine l_p rfl rfl (p_pickf rfl rfl) ?_
            refine l_nil ?_
            simp only [e]
            refine t_if rfl (fun h8 => ?_) (fun h8 => ?_)
            · rw [if_pos (.inr ⟨hr.2 (by omega), h8⟩)] at h1
              refine t_seq ?_
              refine t_region ?_
              refine l_p rfl rfl (p_assign rfl) ?_
              refine l_p rfl rfl (p_assign rfl) ?_
              refine l_nil ?_
              exact t_ret2 rfl rfl rfl fun w hI => ⟨σ, .refl σ, ⟨_, by rw [← h1]; rfl, by rw [← h1]; exact Sl.nil ..⟩, hI.tail.dropN R⟩
            · refine t_skip ?_
              exact t_back () ⟨rfl, rfl, rfl, rfl, rfl, rfl, trivial⟩ (by rintro (h | h); (have h := of_decide_eq_true h.1; omega); (have h := h.2; rw [h8] at h; cases h)) (fun w hI => hI)
          · refine l_skip rfl rfl ?_
            refine l_skip rfl rfl ?_
            refine l_skip rfl rfl ?_
            refine l_skip rfl rfl ?_
            refine l_skip rfl rfl ?_
            refine l_skip rfl rfl ?_
            refine l_p rfl rfl (p_pickf rfl rfl) ?_
            refine l_p rfl rfl (p_pickf rfl rfl) ?_
            refine l_nil ?_
            refine t_iff rfl ?_
            refine t_skip ?_
            exact t_back () ⟨rfl, rfl, rfl, rfl, rfl, rfl, trivial⟩ (by rintro (h | h); (have h := of_decide_eq_true h.1; omega); (have := hr.1 h.1; omega)) (fun w hI => hI)
      · intro _ hc
        dsimp only at hc ⊢
        rw [if_neg hc] at h1
        refine t_region ?_
        refine l_p rfl rfl (p_move rfl) ?_
        refine l_p rfl rfl (p_move rfl) ?_
        refine l_bsl (by exact rfl) (by exact rfl) (by exact rfl) (by exact rfl) (by exact rfl) (by exact rfl) (by exact rfl) ?_; intro _
        refine l_app1 (enc := Sp.es) (trim p) rfl rfl rfl rfl (.s .z) .z (by exact rfl) rfl (by exact rfl) (by exact rfl) (by omega) (by omega) fun A' cc' => ?_
        refine l_p rfl rfl (p_assign rfl) ?_
        refine l_nil ?_
        refine t_blk ?_
        refine t_region ?_
        refine l_p rfl rfl (p_add rfl rfl (by omega)) ?_
        refine l_p rfl rfl (p_move rfl) ?_
        refine l_nil ?_
        exact t_round (i + 1, out ++ [trim p], A', cc', _ :: R) ⟨rfl, rfl, rfl, gi rfl (by omega), gs rfl (by simp), trivial⟩ ⟨by simpa using h1, by simp only; omega, by simp; omega⟩ (by show l.length - (i + 1) < l.length - i; omega) (fun w hI => Inv.oc (by simp) rfl hI)
  · have hn : i = l.length := by omega
    subst hn
    simp [lst] at h1
    refine t_exit rfl ?_
    refine t_seq ?_
    refine t_region ?_
    refine l_p rfl rfl (p_move rfl) ?_
    refine l_p rfl rfl (p_assign rfl) ?_
    refine l_p rfl rfl (p_assign rfl) ?_
    refine l_nil ?_
    refine t_fzo .z fun σ' hσ hS => ?_
    exact t_ret2 rfl rfl rfl fun w hI => ⟨σ', hσ, ⟨_, by rw [← h1]; rfl, by rw [← h1]; exact hS⟩, hI.dropN R⟩
theorem rlower (σ : Stb) (s : List UInt8) (hs : s.length ≤ 4000000000) : SpV Tryz.prog 44 [st s] σ (st (lower s)) := by
  refine spv Tryz.func44 rfl (by kernel_rfl) rfl fun F => ?_
  refine t_seq ?_
  refine t_region ?_
  refine l_p rfl rfl (p_assign rfl) ?_
  refine l_nil ?_
  refine t_seq ?_
  refine t_region ?_
  refine l_p rfl rfl (p_assign rfl) ?_
  refine l_nil ?_
  refine t_seq ?_
  refine t_seq ?_
  refine t_region ?_
  refine l_p rfl rfl (p_assign rfl) ?_
  refine l_nil ?_
  refine t_block ?_
  refine t_loop (ι := Nat × List Res) { E := fun i => [(0, st s), (3, st (lower (s.take i.1))), (4, i64 i.1)], S := fun _ => σ, M := fun i => i.2 ++ F, Φ := fun i => i.1 ≤ s.length } (fun i => s.length - i.1) (0, [])
    (by exact ⟨rfl, rfl, rfl, trivial⟩) (Nat.zero_le _) (fun w hI => hI) ?_
  rintro ⟨n, R⟩ h1
  dsimp only at h1 ⊢
  have hll : (lower (s.take n)).length = n := by simp [lower]; omega
  refine t_seq ?_
  refine t_seq ?_
  refine t_region ?_
  refine l_p rfl rfl (p_move rfl) ?_
  refine l_p rfl rfl (p_move rfl) ?_
  refine l_p rfl rfl (p_lens (by exact rfl)) ?_
  refine l_p rfl rfl (p_lt rfl rfl) ?_
  refine l_nil ?_
  refine t_ifd rfl (fun h => ?_) (fun h => ?_)
  · have hn : n < s.length := by omega
    have hlt := lower_take hn
    refine t_skip ?_
    refine t_seq ?_
    refine t_block ?_
    refine t_seq ?_
    refine t_region ?_
    refine l_p rfl rfl (p_move rfl) ?_
    refine l_p rfl rfl (p_move rfl) ?_
    refine l_p rfl rfl (p_six _ (by exact rfl) (by exact rfl) rfl (by omega)) ?_
    refine l_p rfl rfl (p_assign rfl) ?_
    refine l_nil ?_
    refine t_seq ?_
    refine t_seq ?_
    refine t_region ?_
    refine l_p rfl rfl (p_move rfl) ?_
    refine l_p rfl rfl (p_ge rfl rfl) ?_
    refine l_p rfl rfl (p_move rfl) ?_
    refine l_split 17 rfl (fun h3 => ?_) (fun h3 => ?_)
    · refine l_p rfl rfl (p_move rfl) ?_
      refine l_p rfl rfl (p_le rfl rfl) ?_
      refine l_p rfl rfl (p_pickt rfl rfl) ?_
      refine l_nil ?_
      refine t_ifd rfl (fun h4 => ?_) (fun h4 => ?_)
      · refine t_region ?_
        refine l_p rfl rfl (p_move rfl) ?_
        refine l_p rfl rfl (p_addb8 rfl rfl (by omega)) ?_
        refine l_p rfl rfl (p_assign rfl) ?_
        refine l_nil ?_
        refine t_region ?_
        refine l_p rfl rfl (p_move rfl) ?_
        refine l_p rfl rfl (p_move rfl) ?_
        refine l_bsl (by exact rfl) (by exact rfl) (by exact rfl) (by exact rfl) (by exact rfl) (by exact rfl) (by exact rfl) ?_; intro _
        refine l_p rfl rfl (p_b2s1 (by exact rfl) .z (by exact rfl)) ?_
        refine l_p rfl rfl (p_cat rfl rfl (by simp only [List.length_cons, List.length_nil, List.length_append]; omega)) ?_
        refine l_p rfl rfl (p_assign rfl) ?_
        refine l_nil ?_
        refine t_blk ?_
        refine t_region ?_
        refine l_p rfl rfl (p_move rfl) ?_
        refine l_p rfl rfl (p_add rfl rfl (by omega)) ?_
        refine l_p rfl rfl (p_assign rfl) ?_
        refine l_nil ?_
        have e : lowb s[n] = UInt8.ofNat (s[n].toNat + Int.toNat 32) := by rw [lowb, if_pos (by omega)]; rfl
        rw [e] at hlt
        exact t_round (n + 1, _ :: R) ⟨rfl, by rw [← hlt]; rfl, gi rfl (by omega), trivial⟩ (by simp only; omega) (by show s.length - (n + 1) < s.length - n; omega) (fun w hI => hI)
      · have e : lowb s[n] = s[n] := lowb_not (by omega)
        rw [e] at hlt
        refine t_skip ?_
        refine t_region ?_
        refine l_p rfl rfl (p_move rfl) ?_
        refine l_p rfl rfl (p_move rfl) ?_
        refine l_bsl (by exact rfl) (by exact rfl) (by exact rfl) (by exact rfl) (by exact rfl) (by exact rfl) (by exact rfl) ?_; intro _
        refine l_p rfl rfl (p_b2s1 (by exact rfl) .z (by exact rfl)) ?_
        refine l_p rfl rfl (p_cat rfl rfl (by simp only [List.length_cons, List.length_nil, List.length_append]; omega)) ?_
        refine l_p rfl rfl (p_assign rfl) ?_
        refine l_nil ?_
        refine t_blk ?_
        refine t_region ?_
        refine l_p rfl rfl (p_move rfl) ?_
        refine l_p rfl rfl (p_add rfl rfl (by omega)) ?_
        refine l_p rfl rfl (p_assign rfl) ?_
        refine l_nil ?_
        exact t_round (n + 1, _ :: R) ⟨rfl, by rw [← hlt]; rfl, gi rfl (by omega), trivial⟩ (by simp only; omega) (by show s.length - (n + 1) < s.length - n; omega) (fun w hI => hI)
    · have e : lowb s[n] = s[n] := lowb_not (by omega)
      rw [e] at hlt
      refine l_skip rfl rfl ?_
      refine l_skip rfl rfl ?_
      refine l_p rfl rfl (p_pickf rfl rfl) ?_
      refine l_nil ?_
      refine t_iff rfl ?_
      refine t_skip ?_
      refine t_region ?_
      refine l_p rfl rfl (p_move rfl) ?_
      refine l_p rfl rfl (p_move rfl) ?_
      refine l_bsl (by exact rfl) (by exact rfl) (by exact rfl) (by exact rfl) (by exact rfl) (by exact rfl) (by exact rfl) ?_; intro _
      refine l_p rfl rfl (p_b2s1 (by exact rfl) .z (by exact rfl)) ?_
      refine l_p rfl rfl (p_cat rfl rfl (by simp only [List.length_cons, List.length_nil, List.length_append]; omega)) ?_
      refine l_p rfl rfl (p_assign rfl) ?_
      refine l_nil ?_
      refine t_blk ?_
      refine t_region ?_
      refine l_p rfl rfl (p_move rfl) ?_
      refine l_p rfl rfl (p_add rfl rfl (by omega)) ?_
      refine l_p rfl rfl (p_assign rfl) ?_
      refine l_nil ?_
      exact t_round (n + 1, _ :: R) ⟨rfl, by rw [← hlt]; rfl, gi rfl (by omega), trivial⟩ (by simp only; omega) (by show s.length - (n + 1) < s.length - n; omega) (fun w hI => hI)
  · have hn : n = s.length := by omega
    subst hn
    refine t_exit rfl ?_
    refine t_seq ?_
    refine t_region ?_
    refine l_p rfl rfl (p_move rfl) ?_
    refine l_p rfl rfl (p_assign rfl) ?_
    refine l_nil ?_
    exact t_ret1 rfl rfl fun w hI => ⟨by rw [List.take_length], hI.dropN R⟩
theorem tfold (σ : Stb) (a b : List UInt8) (ha : a.length ≤ 4000000000) (hb : b.length ≤ 4000000000) : SpV Tryz.prog 52 [st a, st b] σ (.bool (decide (lower a = lower b))) := by
  refine spv Tryz.func52 rfl (by kernel_rfl) rfl fun F => ?_
  refine t_seq ?_
  refine t_region ?_
  refine l_p rfl rfl (p_assign rfl) ?_
  refine l_nil ?_
  refine t_seq ?_
  refine t_region ?_
  refine l_p rfl rfl (p_move rfl) ?_
  refine l_callv rfl rfl rfl (tlower σ a (by omega)) ?_
  refine l_p rfl rfl (p_move rfl) ?_
  refine l_callv rfl rfl rfl (tlower σ b (by omega)) ?_
  refine l_p rfl rfl (p_seq rfl rfl) ?_
  refine l_p rfl rfl (p_assign rfl) ?_
  refine l_nil ?_
  exact t_ret1 rfl rfl fun w hI => ⟨rfl, hI⟩
end Go.Proofs.YtfglenbfbcckjaaGreatDoor
