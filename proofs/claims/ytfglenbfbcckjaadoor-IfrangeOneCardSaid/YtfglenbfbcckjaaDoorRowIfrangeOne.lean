/- IfrangeOne: for every input the law returns true. -/
import Derived.Test.YtfglenbfbcckjaaDoorRows
import Derived.Test.YtfglenbfbcckjaaDoorTie
import Derived.Test.YtfglenbfbcckjaaDoorCards
import Derived.Test.YtfglenbfbcckjaaDoorE16
import Derived.Test.YtfglenbfbcckjaaDoorWone
import Derived.ProofKit
import Derived.LaidMore
import Derived.Lay
import Derived.OpenShut
import Derived.Stop.Joined
import Derived.SevenTiedAt
set_option linter.unusedVariables false
set_option linter.unusedSimpArgs false
namespace Go.Proofs.YtfglenbfbcckjaaDoor
open Go.Sp Go.ChangeShapes Go.WideShapes Go.ChangeAt Go.WideMaps Go.WideElems Go.RowKit
theorem IfrangeOne_laidOut : laidOutB Tryd.prog = true := by kernel_rfl
theorem IfrangeOne_own : ownKnob Tryd.prog.godebug = none := by kernel_rfl
set_option maxRecDepth 100000 in
theorem IfrangeOne_lifted (os : Os) (started : os.Started) (H : Type) (enc : TypeId × Value → H) :
    ReturnsInHanded {} Tryd.checked os 4 .any (fun w args => (Rows.ifrangeOneSpec.pre enc Tryd.prog Tryd.f4 [] false w args ∧ laidMetH Tryd.prog Rows.ifrangeOneRow.laid w) ∧ sizedMet enc Tryd.prog Tryd.f4 (OpenSpec.ofChange Rows.ifrangeOneSpec) false w args)
      (Rows.ifrangeOneSpec.post enc Tryd.prog Tryd.f4 false true false false) := by
  refine returnsInHanded_of_change_and (C := Tryd.checked) (X := fun w _ => laidMetH Tryd.prog Rows.ifrangeOneRow.laid w) (fun _ _ _ hh h => h.of_heap hh) IfrangeOne_own started (by kernel_rfl) Tryd.func4
    (ChangeSpec.witness_shaped (enc := enc) (C := Tryd.checked) (os := os) (X := fun w _ => laidMetH Tryd.prog Rows.ifrangeOneRow.laid w) false (World.laidAll Tryd.prog os Rows.ifrangeOneRow.laid) #[.int .i64 0, .int .i64 0, .string ⟨#[]⟩, .int .i64 0] 8 (World.laidAll_os _ _ _)
      (World.shaped_of_ZipB (by kernel_rfl) (by kernel_rfl)) (by kernel_rfl) (by kernel_rfl) (by kernel_rfl)
      (by rw [MakeChecks.laidMetH_plain _ _ _ (by kernel_rfl)]; exact laidMet_laidAll _ (by kernel_rfl) (by kernel_rfl))) ?_
  intro W base args ds gs before hval0 hW _ _ hL _
  have hval : ∀ (j : Nat) t v, Tryd.f4.params[j]? = some t → args[j]? = some v → Value.okWide Tryd.prog W .any base t v := hval0
  have hW' := hW
  obtain ⟨p, q, hA0, hV, rfl, hfz, hnd⟩ := hW
  have hA : DataW.TrodAll enc Tryd.prog W 0 (fun _ => true) true Tryd.f4.params.toList args.toList ds p := hA0
  have hlt : ∀ x ∈ p, x.block < W.heap.size := fun x hx => by simpa using hW'.lt x (by simp [hx])
  obtain ⟨rfl, rfl⟩ := trodVars_none hV
  have hAk := hA
  rw [Tryd.params4] at hA hval
  obtain ⟨al⟩ := args
  obtain ⟨v0, x0, d0, y0, p0, q0, e0, e0b, e0c, h0, g0⟩ := Sp.trodAll_cons hA
  obtain ⟨v1, x1, d1, y1, p1, q1, e1, e1b, e1c, h1, g1⟩ := Sp.trodAll_cons g0
  obtain ⟨v2, x2, d2, y2, p2, q2, e2, e2b, e2c, h2, g2⟩ := Sp.trodAll_cons g1
  obtain ⟨v3, x3, d3, y3, p3, q3, e3, e3b, e3c, h3, g3⟩ := Sp.trodAll_cons g2
  obtain ⟨z1, z2, z3⟩ := Sp.trodAll_nil g3
  simp only at e0
  subst z1; subst z2; subst z3; subst e3; subst e3b; subst e3c; subst e2; subst e2b; subst e2c; subst e1; subst e1b; subst e1c; subst e0; subst e0b; subst e0c
  obtain ⟨a0, r0, k0⟩ := open_one (opn_int (P := Tryd.prog) (W := W) (t := 3)) (hval 0 3 v0 rfl rfl) h0
  simp only [List.cons.injEq, and_true] at r0; subst r0
  obtain ⟨a1, r1, k1⟩ := open_one (opn_int (P := Tryd.prog) (W := W) (t := 3)) (hval 1 3 v1 rfl rfl) h1
  simp only [List.cons.injEq, and_true] at r1; subst r1
  obtain ⟨a2, r2, k2⟩ := open_one (opn_string (P := Tryd.prog) (W := W) (t := 9)) (hval 2 9 v2 rfl rfl) h2
  simp only [List.cons.injEq, and_true] at r2; subst r2
  obtain ⟨a3, r3, k3⟩ := open_one (opn_int (P := Tryd.prog) (W := W) (t := 3)) (hval 3 3 v3 rfl rfl) h3
  simp only [List.cons.injEq, and_true] at r3; subst r3
  refine (Sp.law_calls (one_walk (Sp.Stb.of W) a0 a1 a3 a2 (bounds_i64 k0) (bounds_i64 k1) (bounds_i64 k3))).mono fun e W' ⟨he, hb⟩ => ?_
  subst he
  have hT := below_trodAll IfrangeOne_laidOut hb _ _ _ _ (by kernel_rfl) hAk hlt
  clear hA0 hval0
  simp only [List.append_nil] at hW'
  refine ⟨_, rfl, _, _, _, [], (p0 ++ (p1 ++ (p2 ++ (p3 ++ [])))), [], hW', ?_, ?_, ?_, hb.frame _, fun h => by cases h⟩
  · exact trodAll_mk1 (shut_bool Tryd.underlying4 true)
  · exact hT
  · rfl
theorem IfrangeOne_row : Rows.IfrangeOneSaid :=
  OpenClaim.holds_of_wide 4 Tryd.f4 rfl rfl rfl rfl rfl rfl rfl ⟨rfl, rfl, rfl, rfl, rfl⟩ rfl rfl rfl rfl rfl (by kernel_rfl) Tryd.func4 (by kernel_rfl)
    (of_decide_eq_true (by kernel_rfl)) (by unfold Func.isWrapper; first | (rw [if_pos (by decide +kernel)]; kernel_rfl) | (rw [if_neg (by decide +kernel)]; exact ⟨rfl, rfl⟩))
    (fun os started H enc _ => IfrangeOne_lifted os started H enc)
theorem ifrangeOne_holds : Rows.IfrangeOneCardSaid :=
  Claim7.holds_tied_plain_at .later [] [.data, .pinned] true (true, "0d9392732a4e6fa51f09b54d6188f5afffeb8ce0d78579733a9fc182f9ed1a08") false
    IfrangeOne_row (fun _ h => by cases h) (by kernel_rfl) (fun _ h => by cases h) ifrangeOne_row_tie rfl ⟨rfl, rfl⟩ (by kernel_rfl) rfl
    (fun f fn hf hfn => by
      obtain rfl : f = 4 := Option.some.inj ((show Tryd.prog.funcNamed "spence/spencelaw09.IfrangeOne" = some 4 by kernel_rfl).symm.trans hf) |>.symm
      obtain rfl : fn = Tryd.f4 := (Option.some.inj (Tryd.func4.symm.trans hfn)).symm
      exact ⟨by kernel_rfl, fun j t ht => by
        rw [Tryd.params4] at ht
        have hm : t ∈ [3, 3, 9, 3] := by simpa using Array.mem_of_getElem? ht
        have hall : ([3, 3, 9, 3].all fun u => !Tryd.prog.wantsStandIn u) = true := by kernel_rfl
        exact (show Tryd.prog.wantsStandIn t = false by simpa using List.all_eq_true.1 hall t hm)⟩)
    (by kernel_rfl)
end Go.Proofs.YtfglenbfbcckjaaDoor
