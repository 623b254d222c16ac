/- Layer 9 (ifrange): walks. -/
import Derived.Test.YtfglenbfbcckjaaGreatDoorWmerge
import Derived.Test.YtfglenbfbcckjaaGreatDoorWspec2
import Derived.Test.YtfglenbfbcckjaaGreatDoorWetag
set_option linter.unusedSimpArgs false
set_option linter.unusedVariables false
set_option maxRecDepth 20000
namespace Go.Proofs.YtfglenbfbcckjaaGreatDoor
open Go.Sp
attribute [local irreducible] Go.Sp.Pr Go.Sp.Ws Go.Sp.Wl Go.Sp.Wq Go.Sp.Rds Go.Sp.Src
theorem sasked (σ : Stb) (s : List UInt8) (hs : s.length ≤ 1000000) : Sp0 Tryz.prog 14 [st s] σ fun v σ' => Sl σ' 3 esp v (specs s).1 := by
  refine sp0 Tryz.func14 rfl (by kernel_rfl) rfl fun F => ?_
  refine t_seq ?_
  refine t_region ?_
  refine l_p rfl rfl (p_assign rfl) ?_
  refine l_nil ?_
  refine t_seq ?_
  refine t_region ?_
  refine l_p rfl rfl (p_move rfl) ?_
  refine l_call0 rfl rfl rfl (sparse σ s hs) ?_
  rintro _ σ1 hσ1 ⟨sv, rfl, hS⟩
  refine l_p rfl rfl (p_move rfl) ?_
  refine l_p rfl rfl (p_ext rfl rfl) ?_
  refine l_p rfl rfl (p_ext rfl rfl) ?_
  refine l_p rfl rfl (p_assign rfl) ?_
  refine l_p rfl rfl (p_assign rfl) ?_
  refine l_nil ?_
  refine t_seq ?_
  refine t_region ?_
  refine l_p rfl rfl (p_move rfl) ?_
  refine l_p rfl rfl (p_assign rfl) ?_
  refine l_nil ?_
  exact t_ret1 rfl rfl fun w hI => ⟨σ1, hσ1, hS, hI⟩
theorem swhole (σ : Stb) (n : Int) : SpV Tryz.prog 13 [i64 n] σ (.agg #[i64 200, .slice none 0 0]) := by
  refine spv Tryz.func13 rfl (by kernel_rfl) rfl fun F => ?_
  refine t_seq ?_
  refine t_region ?_
  refine l_alloc (by exact rfl) (by exact rfl) (by exact rfl) ?_; intro _
  refine l_nil ?_
  refine t_seq ?_
  refine t_region ?_
  refine l_p rfl rfl (p_build (by exact rfl) (by exact rfl) (by exact rfl) (by exact rfl)) ?_
  refine l_sti rfl rfl rfl rfl rfl (by exact rfl) (by exact rfl) (by exact rfl) (by exact ⟨rfl, rfl⟩) ?_
  refine l_nil ?_
  exact t_ret rfl (.cn rfl Rds.bxi rfl rfl .nil) fun w hI => ⟨rfl, hI.tail⟩
/-- What is chosen. -/
def ChoiceP (header cond tag : List UInt8) (n : Int) (status : Nat) (spans : List N2) : Prop :=
  if (specs header).1 = [] ∨ useP cond tag = false then status = 200 ∧ spans = []
  else if resolveI (specs header).1 n = [] then status = 416 ∧ spans = []
  else status = 206 ∧ if clashB [] (resolveI (specs header).1 n) = true then ∃ l' : List N2, l'.Perm (resolveI (specs header).1 n) ∧ l'.Pairwise (fun x y => x.1 ≤ y.1) ∧ spans = mergeL 0 l' else spans = resolveI (specs header).1 n
def ChoiceR (σ : Stb) (header cond tag : List UInt8) (n : Int) (v : Value) : Prop := ∃ (status : Nat) (sv : Value) (spans : List N2), v = .agg #[i64 status, sv] ∧ Sl σ 2 esn sv spans ∧ ChoiceP header cond tag n status spans
theorem resolve_right (l : List S3) (n : Int) : ∀ x ∈ resolveI l n, rightN x = true := by
  unfold resolveI
  split
  · suffices key : ∀ (l : List S3) (out : List N2), (∀ x ∈ out, rightN x = true) → ∀ x ∈ l.foldl (fun out x => addR out n.toNat x) out, rightN x = true from key l [] (by simp)
    intro l
    induction l with
    | nil => intro out h; exact h
    | cons s r ih =>
      intro out ho
      refine ih _ fun x hx => ?_
      simp only [addR] at hx
      split at hx
      · rename_i h
        rcases List.mem_append.1 hx with hx | hx
        · exact ho x hx
        · simp at hx; subst hx; exact h.2
      · exact ho x hx
  · simp
theorem resolve_len (l : List S3) (n : Int) : (resolveI l n).length ≤ l.length := by
  unfold resolveI
  split
  · suffices key : ∀ (l : List S3) (out : List N2), (l.foldl (fun out x => addR out n.toNat x) out).length ≤ out.length + l.length from by
      have := key l []
      rw [resolveN]
      simpa using this
    intro l
    induction l with
    | nil => intro out; simp
    | cons s r ih => intro out; have := ih (addR out n.toNat s); have := addR_len out n.toNat s; simp only [List.foldl_cons, List.length_cons]; omega
  · simp
theorem specs_len (s : List UInt8) : (specs s).1.length ≤ 16 := by
  unfold specs
  split
  · simp
  split
  · simp
  unfold specs2
  split
  · simp
  split
  · simp
  · simp only [vals_len]; omega
theorem schoose (σ : Stb) (header cond tag : List UInt8) (n : Int) (hh : header.length ≤ 1000000) (hc : cond.length ≤ 1000000) : Sp0 Tryz.prog 5 [st header, st cond, st tag, i64 n] σ fun v σ' => ChoiceR σ' header cond tag n v := by
  refine sp0 Tryz.func5 rfl (by kernel_rfl) rfl fun F => ?_
  have hsl := specs_len header
  have hCP : ∀ st sp, ChoiceP header cond tag n st sp ↔ _ := fun st sp => Iff.of_eq (ChoiceP.eq_1 header cond tag n st sp)
  refine t_seq ?_
  refine t_region ?_
  refine l_alloc (by exact rfl) (by exact rfl) (by exact rfl) ?_; intro _
  refine l_nil ?_
  refine t_seq ?_
  refine t_region ?_
  refine l_p rfl rfl (p_move rfl) ?_
  refine l_call0 rfl rfl rfl (sasked σ header hh) ?_
  intro v σ1 hσ1 hS
  obtain ⟨A, cc, rfl⟩ : ∃ A c, v = .slice A (specs header).1.length c := by obtain ⟨⟨A, c, h, _⟩, _⟩ := hS; exact ⟨A, c, h⟩
  generalize (specs header).1 = l at *
  have hall : ∀ w sp, Inv σ1 F w → (l = [] ∨ useP cond tag = false) → sp = Value.agg #[i64 200, .slice none 0 0] → ∃ σ', σ.le σ' ∧ ChoiceR σ' header cond tag n sp ∧ Sp.Inv σ' F w := fun w sp hI h e => ⟨σ1, hσ1, ⟨200, _, [], e, Sl.nil .., (hCP _ _).2 (by rw [if_pos h]; exact ⟨rfl, rfl⟩)⟩, hI⟩
  refine l_p rfl rfl (p_assign rfl) ?_
  refine l_nil ?_
  refine t_seq ?_
  refine t_seq ?_
  refine t_region ?_
  refine l_p rfl rfl (p_move rfl) ?_
  refine l_p rfl rfl (p_lensl (by exact rfl)) ?_
  refine l_p rfl rfl (p_eq rfl rfl) ?_
  refine l_p rfl rfl (p_move rfl) ?_
  refine l_split 16 rfl (fun h => ?_) (fun h => ?_)
  · have hl : l = [] := List.length_eq_zero_iff.1 (by omega)
    refine l_skip rfl rfl ?_
    refine l_skip rfl rfl ?_
    refine l_skip rfl rfl ?_
    refine l_skip rfl rfl ?_
    refine l_p rfl rfl (p_pickt rfl rfl) ?_
    refine l_nil ?_
    refine t_ift rfl ?_
    refine t_seq ?_
    refine t_region ?_
    refine l_p rfl rfl (p_move rfl) ?_
    refine l_callv rfl rfl rfl (swhole σ1 n) ?_
    refine l_sti rfl rfl rfl rfl rfl (by exact rfl) (by exact rfl) (by exact rfl) (by exact ⟨rfl, rfl⟩) ?_
    refine l_nil ?_
    exact t_ret rfl (.cn rfl Rds.bxi rfl rfl .nil) fun w hI => hall w _ hI.tail (.inl hl) rfl
  have hl : l ≠ [] := fun e => h (by rw [e]; rfl)
  refine l_p rfl rfl (p_move rfl) ?_
  refine l_p rfl rfl (p_move rfl) ?_
  refine l_callv rfl rfl rfl (tuse σ1 cond tag (by omega)) ?_
  refine l_p rfl rfl (p_not rfl) ?_
  refine l_p rfl rfl (p_pickf rfl rfl) ?_
  refine l_nil ?_
  refine t_if rfl (fun h2 => ?_) (fun h2 => ?_)
  · have h2' : useP cond tag = false := by simpa using h2
    refine t_seq ?_
    refine t_region ?_
    refine l_p rfl rfl (p_move rfl) ?_
    refine l_callv rfl rfl rfl (swhole σ1 n) ?_
    refine l_sti rfl rfl rfl rfl rfl (by exact rfl) (by exact rfl) (by exact rfl) (by exact ⟨rfl, rfl⟩) ?_
    refine l_nil ?_
    exact t_ret rfl (.cn rfl Rds.bxi rfl rfl .nil) fun w hI => hall w _ hI.tail (.inr h2') rfl
  have h2' : useP cond tag = true := by simpa using h2
  refine t_skip ?_
  refine t_seq ?_
  refine t_region ?_
  refine l_p rfl rfl (p_move rfl) ?_
  refine l_p rfl rfl (p_move rfl) ?_
  refine l_call0 rfl rfl rfl (presolve n hS (by omega)) ?_
  intro v2 σ2 hσ2 hS2
  have hrr := resolve_right l n
  have hrl := resolve_len l n
  have hCP2 : ∀ st sp, ChoiceP header cond tag n st sp ↔ _ := fun st sp => (hCP st sp).trans (Iff.of_eq (if_neg (by rintro (e | e); exact hl e; rw [h2'] at e; cases e)))
  obtain ⟨A2, c2, rfl⟩ : ∃ A c, v2 = .slice A (resolveI l n).length c := by obtain ⟨⟨A, c, h, _⟩, _⟩ := hS2; exact ⟨A, c, h⟩
  generalize resolveI l n = s at *
  refine l_p rfl rfl (p_assign rfl) ?_
  refine l_nil ?_
  refine t_seq ?_
  refine t_block ?_
  refine t_seq ?_
  refine t_region ?_
  refine l_p rfl rfl (p_move rfl) ?_
  refine l_p rfl rfl (p_lensl (by exact rfl)) ?_
  refine l_p rfl rfl (p_eq rfl rfl) ?_
  refine l_p rfl rfl (p_assign rfl) ?_
  refine l_nil ?_
  refine t_ifd rfl (fun h3 => ?_) (fun h3 => ?_)
  · have hs : s = [] := List.length_eq_zero_iff.1 (by omega)
    refine t_seq ?_
    refine t_region ?_
    refine l_p rfl rfl (p_build (by exact rfl) (by exact rfl) (by exact rfl) (by exact rfl)) ?_
    refine l_sti rfl rfl rfl rfl rfl (by exact rfl) (by exact rfl) (by exact rfl) (by exact ⟨rfl, rfl⟩) ?_
    refine l_nil ?_
    exact t_ret rfl (.cn rfl Rds.bxi rfl rfl .nil) fun w hI => ⟨σ2, hσ1.trans hσ2, ⟨416, _, [], rfl, Sl.nil .., (hCP2 _ _).2 (by rw [if_pos hs]; exact ⟨rfl, rfl⟩)⟩, hI.tail⟩
  have hs : s ≠ [] := fun e => h3 (by rw [e]; rfl)
  refine t_seq ?_
  refine t_region ?_
  refine l_p rfl rfl (p_move rfl) ?_
  refine l_callv rfl rfl rfl (sclash hS2 (by omega)) ?_
  refine l_p rfl rfl (p_assign rfl) ?_
  refine l_nil ?_
  refine t_if rfl (fun h4 => ?_) (fun h4 => ?_)
  · refine t_region ?_
    refine l_p rfl rfl (p_move rfl) ?_
    refine l_call0 rfl rfl rfl (smerge hS2 (by omega) hrr) ?_
    rintro v3 σ3 hσ3 ⟨l', hp, hso, hS3⟩
    obtain ⟨A3, c3, rfl⟩ : ∃ A c, v3 = .slice A (mergeL 0 l').length c := by obtain ⟨⟨A, c, h, _⟩, _⟩ := hS3; exact ⟨A, c, h⟩
    refine l_p rfl rfl (p_assign rfl) ?_
    refine l_nil ?_
    refine t_blk ?_
    refine t_seq ?_
    refine t_region ?_
    refine l_p rfl rfl (p_move rfl) ?_
    refine l_p rfl rfl (p_build (by exact rfl) (by exact rfl) (by exact rfl) (by exact rfl)) ?_
    refine l_sti rfl rfl rfl rfl rfl (by exact rfl) (by exact rfl) (by exact rfl) (by exact ⟨rfl, rfl⟩) ?_
    refine l_nil ?_
    exact t_ret rfl (.cn rfl Rds.bxi rfl rfl .nil) fun w hI => ⟨σ3, (hσ1.trans hσ2).trans hσ3, ⟨206, _, mergeL 0 l', rfl, hS3, (hCP2 _ _).2 (by rw [if_neg hs, if_pos h4]; exact ⟨rfl, l', hp, hso, rfl⟩)⟩, hI.tail⟩
  · refine t_skip ?_
    refine t_blk ?_
    refine t_seq ?_
    refine t_region ?_
    refine l_p rfl rfl (p_move rfl) ?_
    refine l_p rfl rfl (p_build (by exact rfl) (by exact rfl) (by exact rfl) (by exact rfl)) ?_
    refine l_sti rfl rfl rfl rfl rfl (by exact rfl) (by exact rfl) (by exact rfl) (by exact ⟨rfl, rfl⟩) ?_
    refine l_nil ?_
    exact t_ret rfl (.cn rfl Rds.bxi rfl rfl .nil) fun w hI => ⟨σ2, hσ1.trans hσ2, ⟨206, _, s, rfl, hS2, (hCP2 _ _).2 (by rw [if_neg hs, if_neg (by rw [h4]; simp)]; exact ⟨rfl, rfl⟩)⟩, hI.tail⟩
end Go.Proofs.YtfglenbfbcckjaaGreatDoor
