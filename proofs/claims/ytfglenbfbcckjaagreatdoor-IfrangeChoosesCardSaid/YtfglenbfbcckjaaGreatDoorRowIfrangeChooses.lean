/- IfrangeChooses: for every input the law returns true. -/
import Derived.Test.YtfglenbfbcckjaaGreatDoorRows
import Derived.Test.YtfglenbfbcckjaaGreatDoorTie
import Derived.Test.YtfglenbfbcckjaaGreatDoorCards
import Derived.Test.YtfglenbfbcckjaaGreatDoorE16
import Derived.Test.YtfglenbfbcckjaaGreatDoorWchooses
import Derived.ProofKit
import Derived.LaidMore
import Derived.Lay
import Derived.OpenShut
import Derived.Stop.Joined
import Derived.SevenTiedAt
set_option linter.unusedVariables false
set_option linter.unusedSimpArgs false
namespace Go.Proofs.YtfglenbfbcckjaaGreatDoor
open Go.Sp Go.ChangeShapes Go.WideShapes Go.ChangeAt Go.WideMaps Go.WideElems Go.RowKit
theorem IfrangeChooses_laidOut : laidOutB Tryz.prog = true := by kernel_rfl
theorem IfrangeChooses_own : ownKnob Tryz.prog.godebug = none := by kernel_rfl
set_option maxRecDepth 100000 in
theorem IfrangeChooses_lifted (os : Os) (started : os.Started) (H : Type) (enc : TypeId × Value → H) :
    ReturnsInHanded {} Tryz.checked os 3 .any (fun w args => (Rows.ifrangeChoosesSpec.pre enc Tryz.prog Tryz.f3 [] false w args ∧ laidMetH Tryz.prog Rows.ifrangeChoosesRow.laid w) ∧ sizedMet enc Tryz.prog Tryz.f3 (OpenSpec.ofChange Rows.ifrangeChoosesSpec) false w args)
      (Rows.ifrangeChoosesSpec.post enc Tryz.prog Tryz.f3 false true false false) := by
  refine returnsInHanded_of_change_and (C := Tryz.checked) (X := fun w _ => laidMetH Tryz.prog Rows.ifrangeChoosesRow.laid w) (fun _ _ _ hh h => h.of_heap hh) IfrangeChooses_own started (by kernel_rfl) Tryz.func3
    (ChangeSpec.witness_shaped (enc := enc) (C := Tryz.checked) (os := os) (X := fun w _ => laidMetH Tryz.prog Rows.ifrangeChoosesRow.laid w) false (World.laidAll Tryz.prog os Rows.ifrangeChoosesRow.laid) #[.string ⟨#[]⟩, .string ⟨#[]⟩, .string ⟨#[]⟩, .int .i64 0] 8 (World.laidAll_os _ _ _)
      (World.shaped_of_ZipB (by kernel_rfl) (by kernel_rfl)) (by kernel_rfl) (by kernel_rfl) (by kernel_rfl)
      (by rw [MakeChecks.laidMetH_plain _ _ _ (by kernel_rfl)]; exact laidMet_laidAll _ (by kernel_rfl) (by kernel_rfl))) ?_
  intro W base args ds gs before hval0 hW _ _ hL _
  have hval : ∀ (j : Nat) t v, Tryz.f3.params[j]? = some t → args[j]? = some v → Value.okWide Tryz.prog W .any base t v := hval0
  have hW' := hW
  obtain ⟨p, q, hA0, hV, rfl, hfz, hnd⟩ := hW
  have hA : DataW.TrodAll enc Tryz.prog W 0 (fun _ => true) true Tryz.f3.params.toList args.toList ds p := hA0
  have hlt : ∀ x ∈ p, x.block < W.heap.size := fun x hx => by simpa using hW'.lt x (by simp [hx])
  obtain ⟨rfl, rfl⟩ := trodVars_none hV
  have hAk := hA
  rw [Tryz.params3] at hA hval
  obtain ⟨al⟩ := args
  obtain ⟨v0, x0, d0, y0, p0, q0, e0, e0b, e0c, h0, g0⟩ := Sp.trodAll_cons hA
  obtain ⟨v1, x1, d1, y1, p1, q1, e1, e1b, e1c, h1, g1⟩ := Sp.trodAll_cons g0
  obtain ⟨v2, x2, d2, y2, p2, q2, e2, e2b, e2c, h2, g2⟩ := Sp.trodAll_cons g1
  obtain ⟨v3, x3, d3, y3, p3, q3, e3, e3b, e3c, h3, g3⟩ := Sp.trodAll_cons g2
  obtain ⟨z1, z2, z3⟩ := Sp.trodAll_nil g3
  simp only at e0
  subst z1; subst z2; subst z3; subst e3; subst e3b; subst e3c; subst e2; subst e2b; subst e2c; subst e1; subst e1b; subst e1c; subst e0; subst e0b; subst e0c
  obtain ⟨a0, r0, k0⟩ := open_one (opn_string (P := Tryz.prog) (W := W) (t := 9)) (hval 0 9 v0 rfl rfl) h0
  simp only [List.cons.injEq, and_true] at r0; subst r0
  obtain ⟨a1, r1, k1⟩ := open_one (opn_string (P := Tryz.prog) (W := W) (t := 9)) (hval 1 9 v1 rfl rfl) h1
  simp only [List.cons.injEq, and_true] at r1; subst r1
  obtain ⟨a2, r2, k2⟩ := open_one (opn_string (P := Tryz.prog) (W := W) (t := 9)) (hval 2 9 v2 rfl rfl) h2
  simp only [List.cons.injEq, and_true] at r2; subst r2
  obtain ⟨a3, r3, k3⟩ := open_one (opn_int (P := Tryz.prog) (W := W) (t := 3)) (hval 3 3 v3 rfl rfl) h3
  simp only [List.cons.injEq, and_true] at r3; subst r3
  refine (Sp.law_calls (chooses_walk (Sp.Stb.of W) a0 a1 a2 a3 (bounds_i64 k3))).mono fun e W' ⟨he, hb⟩ => ?_
  subst he
  have hT := below_trodAll IfrangeChooses_laidOut hb _ _ _ _ (by kernel_rfl) hAk hlt
  clear hA0 hval0
  simp only [List.append_nil] at hW'
  refine ⟨_, rfl, _, _, _, [], (p0 ++ (p1 ++ (p2 ++ (p3 ++ [])))), [], hW', ?_, ?_, ?_, hb.frame _, fun h => by cases h⟩
  · exact trodAll_mk1 (shut_bool Tryz.underlying4 true)
  · exact hT
  · rfl
theorem IfrangeChooses_row : Rows.IfrangeChoosesSaid :=
  OpenClaim.holds_of_wide 3 Tryz.f3 rfl rfl rfl rfl rfl rfl rfl ⟨rfl, rfl, rfl, rfl, rfl⟩ rfl rfl rfl rfl rfl (by kernel_rfl) Tryz.func3 (by kernel_rfl)
    (of_decide_eq_true (by kernel_rfl)) (by unfold Func.isWrapper; first | (rw [if_pos (by decide +kernel)]; kernel_rfl) | (rw [if_neg (by decide +kernel)]; exact ⟨rfl, rfl⟩))
    (fun os started H enc _ => IfrangeChooses_lifted os started H enc)
theorem ifrangeChooses_holds : Rows.IfrangeChoosesCardSaid :=
  Claim7.holds_tied_plain_at .later [] [.data, .pinned] true (true, "2aafe58f8ce1cf7f8be2b423477de634d8534122cb88c0084daabd83612657e9") false
    IfrangeChooses_row (fun _ h => by cases h) (by kernel_rfl) (fun _ h => by cases h) ifrangeChooses_row_tie rfl ⟨rfl, rfl⟩ (by kernel_rfl) rfl
    (fun f fn hf hfn => by
      obtain rfl : f = 3 := Option.some.inj ((show Tryz.prog.funcNamed "spence/spencelaw09.IfrangeChooses" = some 3 by kernel_rfl).symm.trans hf) |>.symm
      obtain rfl : fn = Tryz.f3 := (Option.some.inj (Tryz.func3.symm.trans hfn)).symm
      exact ⟨by kernel_rfl, fun j t ht => by
        rw [Tryz.params3] at ht
        have hm : t ∈ [9, 9, 9, 3] := by simpa using Array.mem_of_getElem? ht
        have hall : ([9, 9, 9, 3].all fun u => !Tryz.prog.wantsStandIn u) = true := by kernel_rfl
        exact (show Tryz.prog.wantsStandIn t = false by simpa using List.all_eq_true.1 hall t hm)⟩)
    (by kernel_rfl)
end Go.Proofs.YtfglenbfbcckjaaGreatDoor
