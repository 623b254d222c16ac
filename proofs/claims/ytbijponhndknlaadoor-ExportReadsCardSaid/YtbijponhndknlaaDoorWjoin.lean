/- errors.Join: walk. -/
import Derived.Test.YtbijponhndknlaaDoorWerr2
import Derived.Test.YtbijponhndknlaaDoorX12
set_option linter.unusedSimpArgs false
set_option linter.unusedVariables false
set_option maxRecDepth 20000
namespace Go.Proofs.YtbijponhndknlaaDoor
open Go.Sp
attribute [local irreducible] Go.Sp.Pr Go.Sp.Ws Go.Sp.Wl Go.Sp.Wq Go.Sp.Rds Go.Sp.Src
def isIf : Value → Bool
  | .iface _ _ => true
  | _ => false
abbrev eV (v : Value) : List Value := [v]
abbrev nn (l : List Value) : List Value := l.filter isIf
theorem errJoin {σ : Stb} {A : Option Addr} {c0 n0 : Nat} {l : List Value} (e : Int) (hS : Sl σ 1 eV (.slice A n0 c0) l) (hl : ∀ v ∈ l, v = .nilIface ∨ v = fault e) (hb : l.length ≤ 1000) :
    Sp0 Tryd.prog 51 [.slice A n0 c0] σ fun v σ' => ErrV σ' v (if nn l = [] then 0 else e) ∧ (v = .nilIface ↔ nn l = []) := by
  have hn := hS.len
  subst hn
  have hsnoc : ∀ j (hj : j < l.length), nn (l.take (j + 1)) = if isIf l[j] = true then nn (l.take j) ++ [l[j]] else nn (l.take j) := fun j hj => by
    rw [take_succ l j hj]; simp only [nn, List.filter_append, List.filter_cons, List.filter_nil]; split <;> simp
  have hlen : ∀ j, (nn (l.take j)).length ≤ j := fun j => Nat.le_trans (List.length_filter_le ..) (by simp; omega)
  refine sp0 Tryd.func51 rfl (by kernel_rfl) rfl fun F => ?_
  refine t_seq ?_
  refine t_region ?_
  refine l_p rfl rfl (p_assign rfl) ?_
  refine l_nil ?_
  refine t_seq ?_
  refine t_region ?_
  refine l_p rfl rfl (p_assign rfl) ?_
  refine l_nil ?_
  refine t_seq ?_
  refine t_seq ?_
  refine t_region ?_
  refine l_p rfl rfl (p_move rfl) ?_
  refine l_p rfl rfl (p_lensl (by exact rfl)) ?_
  refine l_p rfl rfl (p_move rfl) ?_
  refine l_nil ?_
  refine t_block ?_
  refine t_loop (ι := Nat) { E := fun j => [(0, .slice A l.length c0), (9, .slice A l.length c0), (10, i64 l.length), (11, i64 j), (3, i64 (nn (l.take j)).length)], S := fun _ => σ, M := fun _ => F, Φ := fun j => j ≤ l.length } (fun j => l.length - j) 0
    (by exact ⟨rfl, rfl, rfl, rfl, rfl, trivial⟩) (Nat.zero_le _) (fun w hI => hI) ?_
  intro j hj
  have hlj := hlen j
  dsimp only at hj ⊢
  refine t_seq ?_
  refine t_region ?_
  refine l_p rfl rfl (p_lt rfl rfl) ?_
  refine l_nil ?_
  refine t_seq ?_
  refine t_ifd rfl (fun h => ?_) (fun h => ?_)
  · have hj2 : j < l.length := by omega
    have hs := hsnoc j hj2
    refine t_skip ?_
    refine t_seq ?_
    refine t_block ?_
    refine t_seq ?_
    refine t_region ?_
    refine l_p rfl rfl (p_ix _ (by exact rfl) (by exact rfl) (by exact rfl) (by omega) (Rds.ix (by assumption) (by omega))) ?_
    refine l_p rfl rfl (p_ld1 (by exact rfl) (Rds.of (Rds.ix (by assumption) (by omega)) (by exact rfl))) ?_
    refine l_p rfl rfl (p_assign rfl) ?_
    refine l_nil ?_
    refine t_seq ?_
    refine t_region ?_
    refine l_p rfl rfl (p_move rfl) ?_
    rcases hl l[j] (List.getElem_mem hj2) with hv | hv <;> rw [hv] at hs ⊢
    · refine l_p rfl rfl (p_ine0 (by kernel_rfl) (by exact rfl)) ?_
      refine l_nil ?_
      refine t_iff rfl ?_
      refine t_skip ?_
      refine t_blk ?_
      refine t_region ?_
      refine l_p rfl rfl (p_add rfl rfl (by omega)) ?_
      refine l_p rfl rfl (p_move rfl) ?_
      refine l_nil ?_
      exact t_round (j + 1) ⟨rfl, rfl, rfl, gi rfl (by omega), gi rfl (by rw [hs]; rfl), trivial⟩ (by omega) (by show l.length - (j + 1) < l.length - j; omega) (fun w hI => hI)
    · refine l_p rfl rfl (p_ine (by kernel_rfl) (by exact rfl)) ?_
      refine l_nil ?_
      refine t_ift rfl ?_
      refine t_region ?_
      refine l_p rfl rfl (p_move rfl) ?_
      refine l_p rfl rfl (p_add rfl rfl (by omega)) ?_
      refine l_p rfl rfl (p_assign rfl) ?_
      refine l_nil ?_
      refine t_blk ?_
      refine t_region ?_
      refine l_p rfl rfl (p_add rfl rfl (by omega)) ?_
      refine l_p rfl rfl (p_move rfl) ?_
      refine l_nil ?_
      exact t_round (j + 1) ⟨rfl, rfl, rfl, gi rfl (by omega), gi rfl (by rw [hs]; simp [isIf]), trivial⟩ (by omega) (by show l.length - (j + 1) < l.length - j; omega) (fun w hI => hI)
  have hj3 : j = l.length := by omega
  subst hj3
  rw [List.take_length] at hlj ⊢
  refine t_exit rfl ?_
  refine t_seq ?_
  refine t_seq ?_
  refine t_region ?_
  refine l_p rfl rfl (p_move rfl) ?_
  refine l_p rfl rfl (p_eq rfl rfl) ?_
  refine l_nil ?_
  refine t_ifd rfl (fun h2 => ?_) (fun h2 => ?_)
  · have h0 : nn l = [] := List.length_eq_zero_iff.1 (by omega)
    refine t_seq ?_
    refine t_region ?_
    refine l_p rfl rfl (p_assign rfl) ?_
    refine l_nil ?_
    exact t_ret1 rfl rfl fun w hI => ⟨σ, .refl σ, ⟨by rw [if_pos h0]; exact .nil, ⟨fun _ => h0, fun _ => rfl⟩⟩, hI⟩
  have h0 : nn l ≠ [] := fun h => h2 (by rw [h]; rfl)
  refine t_skip ?_
  refine t_seq ?_
  refine t_region ?_
  refine l_p rfl rfl (p_move rfl) ?_
  refine l_mk (enc := eV) (sz := 1) 0 (nn l).length Value.nilIface rfl rfl rfl rfl rfl rfl (Nat.zero_le _) (by omega) (by omega) (by exact rfl) (by exact rfl) fun A1 => ?_
  rw [List.replicate_zero]
  refine l_p rfl rfl (p_build (by exact rfl) (by exact rfl) (by exact rfl) (by exact rfl)) ?_
  refine l_box rfl rfl rfl rfl ?_; intro _
  refine l_p rfl rfl (p_assign rfl) ?_
  refine l_nil ?_
  refine t_seq ?_
  refine t_seq ?_
  refine t_region ?_
  refine l_p rfl rfl (p_move rfl) ?_
  refine l_p rfl rfl (p_lensl (by exact rfl)) ?_
  refine l_p rfl rfl (p_move rfl) ?_
  refine l_nil ?_
  refine t_block ?_
  rename_i gj
  refine t_loop (ι := Nat × Option Addr × Nat) { E := fun i => [(6, .pointer (some ⟨gj, 0, none⟩)), (26, .slice A l.length c0), (27, i64 l.length), (28, i64 i.1)], S := fun _ => σ, M := fun i => own 1 eV 53 (.slice i.2.1 (nn (l.take i.1)).length i.2.2) (nn (l.take i.1)) :: Bx gj [.slice i.2.1 (nn (l.take i.1)).length i.2.2] 110 :: F, Φ := fun i => i.1 ≤ l.length } (fun i => l.length - i.1) (0, A1, (nn l).length)
    (by exact ⟨rfl, rfl, rfl, rfl, trivial⟩) (Nat.zero_le _) (fun w hI => hI.prs (.cons (.s .z) .refl)) ?_
  rintro ⟨j, A2, c2⟩ hj
  have hlj2 := hlen j
  dsimp only at hj ⊢
  refine t_seq ?_
  refine t_region ?_
  refine l_p rfl rfl (p_lt rfl rfl) ?_
  refine l_nil ?_
  refine t_seq ?_
  refine t_ifd rfl (fun h => ?_) (fun h => ?_)
  · have hj2 : j < l.length := by omega
    have hs := hsnoc j hj2
    refine t_skip ?_
    refine t_seq ?_
    refine t_block ?_
    refine t_seq ?_
    refine t_region ?_
    refine l_p rfl rfl (p_ix _ (by exact rfl) (by exact rfl) (by exact rfl) (by omega) (Rds.ix (by assumption) (by omega))) ?_
    refine l_p rfl rfl (p_ld1 (by exact rfl) (Rds.of (Rds.ix (by assumption) (by omega)) (by exact rfl))) ?_
    refine l_p rfl rfl (p_assign rfl) ?_
    refine l_nil ?_
    refine t_seq ?_
    refine t_region ?_
    refine l_p rfl rfl (p_move rfl) ?_
    rcases hl l[j] (List.getElem_mem hj2) with hv | hv <;> rw [hv] at hs ⊢
    · have hs' : nn (l.take (j + 1)) = nn (l.take j) := by rw [hs]; rfl
      refine l_p rfl rfl (p_ine0 (by kernel_rfl) (by exact rfl)) ?_
      refine l_nil ?_
      refine t_iff rfl ?_
      refine t_skip ?_
      refine t_blk ?_
      refine t_region ?_
      refine l_p rfl rfl (p_add rfl rfl (by omega)) ?_
      refine l_p rfl rfl (p_move rfl) ?_
      refine l_nil ?_
      exact t_round (j + 1, A2, c2) ⟨rfl, rfl, rfl, gi rfl (by omega), trivial⟩ (by omega) (by show l.length - (j + 1) < l.length - j; omega) (fun w hI => by dsimp only; rw [hs']; exact hI)
    · have hs' : nn (l.take (j + 1)) = nn (l.take j) ++ [fault e] := by rw [hs]; rfl
      refine l_p rfl rfl (p_ine (by kernel_rfl) (by exact rfl)) ?_
      refine l_nil ?_
      refine t_ift rfl ?_
      refine t_region ?_
      refine l_p rfl rfl (p_move rfl) ?_
      refine l_p rfl rfl (p_move rfl) ?_
      refine l_p rfl rfl (p_ncp rfl) ?_
      refine l_p rfl rfl (p_fa (by exact rfl) Rds.bxi) ?_
      refine l_p rfl rfl (p_ld1 (by exact rfl) Rds.bxi) ?_
      refine l_p rfl rfl (p_move rfl) ?_
      refine l_bsl (by exact rfl) (by exact rfl) (by exact rfl) (by exact rfl) (by exact rfl) (by exact rfl) (by exact rfl) ?_; intro _
      refine l_app1 (enc := eV) (fault e) rfl rfl rfl rfl (.s .z) .z (by exact rfl) rfl (by exact rfl) (by exact rfl) (by omega) (by omega) fun A3 c3 => ?_
      refine l_p rfl rfl (p_ncp rfl) ?_
      refine l_p rfl rfl (p_fa (by exact rfl) Rds.bxi) ?_
      refine l_sti rfl rfl rfl rfl rfl (by exact rfl) (by exact rfl) (by exact rfl) (by exact ⟨rfl, rfl⟩) ?_
      refine l_nil ?_
      refine t_blk ?_
      refine t_region ?_
      refine l_p rfl rfl (p_add rfl rfl (by omega)) ?_
      refine l_p rfl rfl (p_move rfl) ?_
      refine l_nil ?_
      exact t_round (j + 1, A3, c3) ⟨rfl, rfl, rfl, gi rfl (by omega), trivial⟩ (by omega) (by show l.length - (j + 1) < l.length - j; omega) (fun w hI => by dsimp only; rw [hs', List.length_append]; exact hI.prs (.cons .z (.drop .refl)))
  · have hj4 : j = l.length := by omega
    subst hj4
    rw [List.take_length]
    refine t_exit rfl ?_
    refine t_seq ?_
    refine t_region ?_
    refine l_p rfl rfl (p_move rfl) ?_
    refine l_p rfl rfl (p_iface (by exact rfl)) ?_
    refine l_p rfl rfl (p_assign rfl) ?_
    refine l_nil ?_
    refine t_fzo .z fun σ1 h1 hS1 => ?_
    refine t_fzb .z fun σ2 h2 hB2 => ?_
    obtain ⟨x, r, hx⟩ : ∃ x r, nn l = x :: r := by cases hq : nn l with | nil => exact absurd hq h0 | cons x r => exact ⟨x, r, rfl⟩
    have hxe : x = fault e := by
      have hm : x ∈ nn l := by rw [hx]; exact List.mem_cons_self ..
      obtain ⟨hm1, hm2⟩ := List.mem_filter.1 hm
      rcases hl x hm1 with h | h
      · subst h; simp [isIf] at hm2
      · exact h
    subst hxe
    rw [hx] at hS1 hB2 h0 ⊢
    exact t_ret1 rfl rfl fun w hI => ⟨σ2, h1.trans h2, ⟨by rw [if_neg h0]; exact .join e hB2 (hS1.up h2), ⟨fun h => (by cases h), fun h => absurd h h0⟩⟩, hI⟩
end Go.Proofs.YtbijponhndknlaaDoor
