/- ExportReads: for every input the law returns true. -/
import Derived.Test.YtbijponhndknlaaDoorRows
import Derived.Test.YtbijponhndknlaaDoorTie
import Derived.Test.YtbijponhndknlaaDoorCards
import Derived.Test.YtbijponhndknlaaDoorE20
import Derived.Test.YtbijponhndknlaaDoorWrow47
import Derived.ProofKit
import Derived.LaidMore
import Derived.Lay
import Derived.OpenShut
import Derived.Stop.Joined
import Derived.SevenTiedAt
set_option linter.unusedVariables false
set_option linter.unusedSimpArgs false
namespace Go.Proofs.YtbijponhndknlaaDoor
open Go.Sp Go.ChangeShapes Go.WideShapes Go.ChangeAt Go.WideMaps Go.WideElems Go.RowKit
theorem ExportReads_laidOut : laidOutB Tryd.prog = true := by kernel_rfl
theorem ExportReads_own : ownKnob Tryd.prog.godebug = none := by kernel_rfl
set_option maxRecDepth 100000 in
theorem ExportReads_lifted (os : Os) (started : os.Started) (H : Type) (enc : TypeId × Value → H) :
    ReturnsInHanded {} Tryd.checked os 3 .any (fun w args => (Rows.exportReadsSpec.pre enc Tryd.prog Tryd.f3 [] false w args ∧ laidMetH Tryd.prog Rows.exportReadsRow.laid w) ∧ sizedMet enc Tryd.prog Tryd.f3 (OpenSpec.ofChange Rows.exportReadsSpec) false w args)
      (Rows.exportReadsSpec.post enc Tryd.prog Tryd.f3 false true false false) := by
  refine returnsInHanded_of_change_and (C := Tryd.checked) (X := fun w _ => laidMetH Tryd.prog Rows.exportReadsRow.laid w) (fun _ _ _ hh h => h.of_heap hh) ExportReads_own started (by kernel_rfl) Tryd.func3
    (ChangeSpec.witness_at (enc := enc) (C := Tryd.checked) (os := os) (X := fun w _ => laidMetH Tryd.prog Rows.exportReadsRow.laid w) false (laidW os) #[.slice none 0 0, .slice none 0 0, .int .i64 0, .int .u8 0] 8 rfl (by kernel_rfl) (by kernel_rfl) (by kernel_rfl) (by kernel_rfl) (by kernel_rfl) (laidW_met os _)) ?_
  intro W base args ds gs before hval0 hW _ _ hL _
  have hval : ∀ (j : Nat) t v, Tryd.f3.params[j]? = some t → args[j]? = some v → Value.okWide Tryd.prog W .any base t v := hval0
  have hW' := hW
  obtain ⟨p, q, hA0, hV, rfl, hfz, hnd⟩ := hW
  have hA : DataW.TrodAll enc Tryd.prog W 0 (fun _ => true) true Tryd.f3.params.toList args.toList ds p := hA0
  have hlt : ∀ x ∈ p, x.block < W.heap.size := fun x hx => by simpa using hW'.lt x (by simp [hx])
  obtain ⟨rfl, rfl⟩ := trodVars_none hV
  have hAk := hA
  rw [Tryd.params3] at hA hval
  obtain ⟨al⟩ := args
  obtain ⟨v0, x0, d0, y0, p0, q0, e0, e0b, e0c, h0, g0⟩ := Sp.trodAll_cons hA
  obtain ⟨v1, x1, d1, y1, p1, q1, e1, e1b, e1c, h1, g1⟩ := Sp.trodAll_cons g0
  obtain ⟨v2, x2, d2, y2, p2, q2, e2, e2b, e2c, h2, g2⟩ := Sp.trodAll_cons g1
  obtain ⟨v3, x3, d3, y3, p3, q3, e3, e3b, e3c, h3, g3⟩ := Sp.trodAll_cons g2
  obtain ⟨z1, z2, z3⟩ := Sp.trodAll_nil g3
  simp only at e0
  subst z1; subst z2; subst z3; subst e3; subst e3b; subst e3c; subst e2; subst e2b; subst e2c; subst e1; subst e1b; subst e1c; subst e0; subst e0b; subst e0c
  obtain ⟨a0, r0, k0⟩ := arg_one (opn_slice (P := Tryd.prog) (W := W) (t := 22) (opn_u8 (P := Tryd.prog) (W := W) (t := 5)) (by decide)) (hval 0 22 v0 rfl rfl) h0
  simp only [List.cons.injEq, and_true] at r0; subst r0
  obtain ⟨a1, r1, k1⟩ := arg_one (opn_slice (P := Tryd.prog) (W := W) (t := 23) (opn_struct (P := Tryd.prog) (W := W) (t := 39) Tryd.underlying39 (by kernel_rfl) (fopn_cons (opn_struct (P := Tryd.prog) (W := W) (t := 36) Tryd.underlying36 (by kernel_rfl) (fopn_cons (opn_int (P := Tryd.prog) (W := W) (t := 3)) rfl (by kernel_rfl) (fopn_cons (opn_int (P := Tryd.prog) (W := W) (t := 3)) rfl (by kernel_rfl) (fopn_cons (opn_string (P := Tryd.prog) (W := W) (t := 9)) rfl (by kernel_rfl) (fopn_cons (opn_int (P := Tryd.prog) (W := W) (t := 3)) rfl (by kernel_rfl) (fopn_one (opn_int (P := Tryd.prog) (W := W) (t := 3)) rfl (by kernel_rfl) rfl)))))) rfl (by kernel_rfl) (fopn_one (opn_slice (P := Tryd.prog) (W := W) (t := 37) (opn_struct (P := Tryd.prog) (W := W) (t := 43) Tryd.underlying43 (by kernel_rfl) (fopn_cons (opn_int (P := Tryd.prog) (W := W) (t := 3)) rfl (by kernel_rfl) (fopn_cons (opn_int (P := Tryd.prog) (W := W) (t := 3)) rfl (by kernel_rfl) (fopn_cons (opn_int (P := Tryd.prog) (W := W) (t := 3)) rfl (by kernel_rfl) (fopn_one (opn_slice (P := Tryd.prog) (W := W) (t := 22) (opn_u8 (P := Tryd.prog) (W := W) (t := 5)) (by decide)) rfl (by kernel_rfl) rfl))))) (by decide)) rfl (by kernel_rfl) rfl))) (by decide)) (hval 1 23 v1 rfl rfl) h1
  simp only [List.cons.injEq, and_true] at r1; subst r1
  obtain ⟨a2, r2, k2⟩ := arg_one (opn_int (P := Tryd.prog) (W := W) (t := 3)) (hval 2 3 v2 rfl rfl) h2
  simp only [List.cons.injEq, and_true] at r2; subst r2
  obtain ⟨a3, r3, k3⟩ := arg_one (opn_u8 (P := Tryd.prog) (W := W) (t := 5)) (hval 3 5 v3 rfl rfl) h3
  simp only [List.cons.injEq, and_true] at r3; subst r3
  refine (Sp.law_calls (reads_at hL a0.1 a0.2 k0.1 a1.1 a1.2 ⟨k1.1, fun h hh => ⟨(k1.2.2 h hh).2.1, fun p hp => ((k1.2.2 h hh).2.2.2 p hp).2.2.2.1⟩⟩ a2 a3)).mono fun e W' ⟨he, hb⟩ => ?_
  subst he
  have hT := below_trodAll ExportReads_laidOut hb _ _ _ _ (by kernel_rfl) hAk hlt
  clear hA0 hval0
  simp only [List.append_nil] at hW'
  refine ⟨_, rfl, _, _, _, [], (p0 ++ (p1 ++ (p2 ++ (p3 ++ [])))), [], hW', ?_, ?_, ?_, hb.frame _, fun h => by cases h⟩
  · exact trodAll_mk1 (shut_bool Tryd.underlying4 true)
  · exact hT
  · rfl
theorem ExportReads_row : Rows.ExportReadsSaid :=
  OpenClaim.holds_of_wide 3 Tryd.f3 rfl rfl rfl rfl rfl rfl rfl ⟨rfl, rfl, rfl, rfl, rfl⟩ rfl rfl rfl rfl rfl (by kernel_rfl) Tryd.func3 (by kernel_rfl)
    (of_decide_eq_true (by kernel_rfl)) (by unfold Func.isWrapper; first | (rw [if_pos (by decide +kernel)]; kernel_rfl) | (rw [if_neg (by decide +kernel)]; exact ⟨rfl, rfl⟩))
    (fun os started H enc _ => ExportReads_lifted os started H enc)
theorem exportReads_holds : Rows.ExportReadsCardSaid :=
  Claim7.holds_tied_plain_at .later [] [.handle] true (true, "9d8eb4f74e4fa7719fa3e45167893ee38ea55f415e49ff684bcbb65d28c1067a") true
    ExportReads_row (fun _ h => by cases h) (by kernel_rfl) (fun _ h => by cases h) exportReads_row_tie rfl ⟨rfl, rfl⟩ (by kernel_rfl) rfl
    (fun f fn hf hfn => by
      obtain rfl : f = 3 := Option.some.inj ((show Tryd.prog.funcNamed "spence/spencelaw47.ExportReads" = some 3 by kernel_rfl).symm.trans hf) |>.symm
      obtain rfl : fn = Tryd.f3 := (Option.some.inj (Tryd.func3.symm.trans hfn)).symm
      exact ⟨by kernel_rfl, fun j t ht => by
        rw [Tryd.params3] at ht
        have hm : t ∈ [22, 23, 3, 5] := by simpa using Array.mem_of_getElem? ht
        have hall : ([22, 23, 3, 5].all fun u => !Tryd.prog.wantsStandIn u) = true := by kernel_rfl
        exact (show Tryd.prog.wantsStandIn t = false by simpa using List.all_eq_true.1 hall t hm)⟩)
    (by kernel_rfl)
end Go.Proofs.YtbijponhndknlaaDoor
