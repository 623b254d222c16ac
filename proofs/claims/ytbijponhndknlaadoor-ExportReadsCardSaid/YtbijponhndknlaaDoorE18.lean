/-
  The engine, part 18: bits; rows of bytes: made by a length, cut off.
-/
import Derived.Test.YtbijponhndknlaaDoorE17
import Derived.Laws.BitsAllLaws
set_option linter.unusedVariables false
set_option linter.unusedSimpArgs false
namespace Go.Sp
open Go.RowKit
section
variable {P : Program} {σ : Stb} {L : List Res} {ρ : Env} {t t' u : TypeId} {x y : Operand} {m n : Int}
theorem p_xor32 (hx : ev ρ x = some (.int .u32 m)) (hy : ev ρ y = some (.int .u32 n)) (h : 0 ≤ m ∧ m < 4294967296 ∧ 0 ≤ n ∧ n < 4294967296) : Pr P σ L ρ (.binOp .xor t x y t') u (.int .u32 ((m.toNat ^^^ n.toNat : Nat) : Int)) :=
  p_bits (.inr (.inr (.inl rfl))) hx hy fun w => by rw [← u32_xor m n h.1 h.2.1 h.2.2.1 h.2.2.2]; rfl
theorem p_and132 (hx : ev ρ x = some (.int .u32 m)) (hy : ev ρ y = some (.int .u32 1)) (h : 0 ≤ m ∧ m < 4294967296) : Pr P σ L ρ (.binOp .and t x y t') u (.int .u32 (m % 2)) :=
  p_bits (.inl rfl) hx hy fun w => by
    have e : m % 2 = bits .and .u32 m 1 := by
      rw [u32_and m 1 h.1 h.2 (by decide) (by decide)]
      have : (1 : Int).toNat = 1 := rfl
      rw [this, Nat.and_one_is_mod]; omega
    rw [e]; rfl
theorem p_and1u8 (hx : ev ρ x = some (.int .u8 m)) (hy : ev ρ y = some (.int .u8 1)) (h : 0 ≤ m ∧ m < 256) : Pr P σ L ρ (.binOp .and t x y t') u (.int .u8 (m % 2)) :=
  p_bits (.inl rfl) hx hy fun w => by
    have e : m % 2 = bits .and .u8 m 1 := by
      rw [u8_and m 1 h.1 h.2 (by decide) (by decide)]
      have : (1 : Int).toNat = 1 := rfl
      rw [this, Nat.and_one_is_mod]; omega
    rw [e]; rfl
theorem p_or64 (hx : ev ρ x = some (.int .u64 m)) (hy : ev ρ y = some (.int .u64 n)) (h : 0 ≤ m ∧ m < 18446744073709551616 ∧ 0 ≤ n ∧ n < 18446744073709551616) : Pr P σ L ρ (.binOp .or t x y t') u (.int .u64 ((m.toNat ||| n.toNat : Nat) : Int)) :=
  p_bits (.inr (.inl rfl)) hx hy fun w => by rw [← u64_or m n h.1 h.2.1 h.2.2.1 h.2.2.2]; rfl
theorem p_shl64 {κ' : IntKind} (hx : ev ρ x = some (.int .u64 m)) (hy : ev ρ y = some (.int κ' n)) (h : 0 ≤ n ∧ n ≤ 64) : Pr P σ L ρ (.binOp .shl t x y t') u (.int .u64 (m * 2 ^ n.toNat % 18446744073709551616)) := by
  have := p_shl (P := P) (σ := σ) (L := L) (t := t) (t' := t') (u := u) hx hy (by simpa [IntKind.bits] using h)
  rwa [IntKind.wrap_u64] at this
theorem p_shr64 {κ' : IntKind} (hx : ev ρ x = some (.int .u64 m)) (hy : ev ρ y = some (.int κ' n)) (h : 0 ≤ n ∧ n ≤ 64) : Pr P σ L ρ (.binOp .shr t x y t') u (.int .u64 (m / 2 ^ n.toNat)) :=
  p_shr hx hy (by simpa [IntKind.bits] using h)
theorem p_shr32 {κ' : IntKind} (hx : ev ρ x = some (.int .u32 m)) (hy : ev ρ y = some (.int κ' n)) (h : 0 ≤ n ∧ n ≤ 32) : Pr P σ L ρ (.binOp .shr t x y t') u (.int .u32 (m / 2 ^ n.toNat)) :=
  p_shr hx hy (by simpa [IntKind.bits] using h)
theorem p_shr321 {κ' : IntKind} (hx : ev ρ x = some (.int .u32 m)) (hy : ev ρ y = some (.int κ' 1)) : Pr P σ L ρ (.binOp .shr t x y t') u (.int .u32 (m / 2)) :=
  p_shr32 hx hy (by decide)
theorem p_shr8 {κ' : IntKind} (hx : ev ρ x = some (.int .u8 m)) (hy : ev ρ y = some (.int κ' n)) (h : 0 ≤ n ∧ n ≤ 8) : Pr P σ L ρ (.binOp .shr t x y t') u (.int .u8 (m / 2 ^ n.toNat)) :=
  p_shr hx hy (by simpa [IntKind.bits] using h)
theorem p_compl32 (hx : ev ρ x = some (.int .u32 m)) (h : 0 ≤ m ∧ m < 4294967296) : Pr P σ L ρ (.unOp .xor t x) u (.int .u32 ((m.toNat ^^^ 4294967295 : Nat) : Int)) := by
  intro n a w ha hI d pp es g
  have e := u32_xor 4294967295 m (by decide) (by decide) h.1 h.2
  have e2 : (4294967295 : Int).toNat = 4294967295 := rfl
  rw [e2, Nat.xor_comm] at e
  have hr : (Op.intBits .xor .u32 4294967295 m).run P w = .ok (.int .u32 ((m.toNat ^^^ 4294967295 : Nat) : Int)) w := by rw [← e]; rfl
  simp [execOp, ha.ev hx, Op.unary, IntKind.signed, IntKind.max, IntKind.bits, hr]
theorem p_convb64 {b : UInt8} [hs : KI P t .u8] [hd : KI P t' .u64] (hx : ev ρ x = some (u8 b)) : Pr P σ L ρ (.convert t t' x) u (.int .u64 b.toNat) :=
  p_convu64 hx (by have := b.toNat_lt; omega)
theorem p_convb32 {b : UInt8} [hs : KI P t .u8] [hd : KI P t' .u32] (hx : ev ρ x = some (u8 b)) : Pr P σ L ρ (.convert t t' x) u (.int .u32 b.toNat) :=
  p_convu32 hx (by have := b.toNat_lt; omega)
theorem p_convbi {b : UInt8} [hs : KI P t .u8] [hd : KI P t' .i64] (hx : ev ρ x = some (u8 b)) : Pr P σ L ρ (.convert t t' x) u (.int .i64 b.toNat) :=
  p_conv64 hx (by have := b.toNat_lt; omega)
/-- A 64-bit number without a sign as one with a sign. -/
theorem p_convui [hs : KI P t .u64] [hd : KI P t' .i64] (hx : ev ρ x = some (.int .u64 m)) (h : 0 ≤ m ∧ m < 18446744073709551616) : Pr P σ L ρ (.convert t t' x) u (.int .i64 (if m < 9223372036854775808 then m else m - 18446744073709551616)) := by
  have := p_conv (P := P) (σ := σ) (L := L) (ρ := ρ) (u := u) (t := t) (t' := t') (κ := .i64) hx
  have e : IntKind.i64.wrap m = if m < 9223372036854775808 then m else m - 18446744073709551616 := by
    simp only [IntKind.wrap_i64]
    split <;> omega
  rwa [e] at this
end
section
variable {P : Program} {c : Cx} {k : List Kt} {σ : Stb} {L : List Res} {ρ : Env} {ops l : List Oper}
/-- A row of which nothing is kept but its room. -/
theorem Inv.cut0 {α : Type} {w : World} {sz : Nat} {enc : α → List Value} {E : TypeId} {A : Option Addr} {n cc : Nat} {xs : List α} (hI : Inv σ (Sp.own sz enc E (.slice A n cc) xs :: L) w) : Inv σ (Sp.own sz enc E (.slice A 0 cc) ([] : List α) :: L) w := by
  obtain ⟨hsz, hcase⟩ := own.cells (L := Sp.own sz enc E (.slice A n cc) xs :: L) .z hI
  refine hI.chg rfl rfl rfl (Nat.le_refl _) (fun _ _ _ => rfl) ⟨by simp, fun hn => ?_, _, _, rfl⟩ (fun b' hb' => ?_) (Nat.le_refl _)
  · rcases hcase with ⟨h1, _⟩ | ⟨g, cap, cur, fr, h1, _⟩
    · cases h1; exact ⟨rfl, rfl⟩
    · cases h1; simp [Value.ownBlock] at hn
  · rcases hcase with ⟨h1, _⟩ | ⟨g, cap, cur, fr, h1, hg, hnf, hle, hm, hc, htk⟩
    · cases h1; simp [Sp.own, Value.ownBlock] at hb'
    · cases h1
      have hb : g = b' := by simpa [Sp.own, Value.ownBlock] using hb'
      subst hb
      exact ⟨.inl rfl, _, hg, g, cc, cur, fr, rfl, rfl, hnf, Nat.zero_le _, hm, hc, by simp⟩
theorem Sl.shape {α : Type} {sz : Nat} {enc : α → List Value} {v : Value} {l : List α} (h : Sl σ sz enc v l) : ∃ A cc, v = .slice A l.length cc ∧ l.length ≤ cc := by
  obtain ⟨⟨A, cc, h1, h2, _⟩, _⟩ := h
  exact ⟨A, cc, h1, h2⟩
theorem sub00 (g n cc sz : Nat) : slsub (.slice (some ⟨g, 0, none⟩) n cc) sz 0 0 = .slice (some ⟨g, 0, none⟩) 0 cc := by
  simp only [slsub, Option.map_some, Nat.zero_mul, Nat.sub_zero, Addr.add]
  split <;> rfl
theorem l_cut0 {α : Type} {sz : Nat} {enc : α → List Value} {E : TypeId} {A : Option Addr} {n cc : Nat} {xs : List α} {L0 : List Res} (ho : Out (own sz enc E (.slice A n cc) xs) L L0) (h : Wl P c ops l k σ (own sz enc E (.slice A 0 cc) ([] : List α) :: L0) ρ) : Wl P c ops l k σ L ρ := fun w hI => h w (hI.out ho).cut0
theorem Inv.keep1 {r : Res} {w : World} {R F : List Res} (hI : Inv σ (r :: (R ++ F)) w) : Inv σ (r :: F) w := (hI.perm List.perm_middle.symm).dropN R
/-- An owned row that comes out, given up at once. -/
theorem Sp1.fz {α : Type} {f : Nat} {args : List Value} {sz : Nat} {enc : α → List Value} {E : TypeId} {l : List α} (h : Sp1 P f args σ fun v σ' r => σ = σ' ∧ ∃ A c, v = .slice A l.length c ∧ r = Sp.own sz enc E (.slice A l.length c) l) : Sp0 P f args σ fun v σ' => Sl σ' sz enc v l := by
  intro F w hI
  refine (h F w hI).mono fun v w' ⟨σ1, r, _, ⟨e, A, c, hv, hr⟩, hI'⟩ => ?_
  subst e; subst hv; subst hr
  obtain ⟨σ2, h1, h2, h3⟩ := hI'.fzo
  exact ⟨σ2, h1, h3, h2⟩
/-- append(nil, make([]byte, n)...). -/
theorem l_apz {d : Nat} {s x : Operand} {t tx ty : TypeId} {p : String} {es : Array Edge} {g : Option (Nat × Bool)} {e : Nat} {n : Nat} [hs : SI P t e 1 1] [hz : ZI P e (u8 0)] [hk : KI P tx .i64]
    (hg : gd ops ρ g = some true) (hd : Nat.blt d c.n = true) (hsv : ev ρ s = some (.slice none 0 0)) (hx : ev ρ x = some (i64 n)) (h0 : 1 ≤ n) (hb2 : n ≤ 140737488355328)
    (h : ∀ b cc, Wl P c ops l k σ (own 1 eu8 e (.slice (some ⟨b, 0, none⟩) n cc) (List.replicate n 0) :: L) ((d, .slice (some ⟨b, 0, none⟩) n cc) :: ρ)) :
    Wl P c ops (⟨some d, .call ⟨.builtin .append, #[s, x], #[t, tx]⟩, ty, p, es, g⟩ :: l) k σ L ρ := by
  intro w hI a ha
  simp only [wpList]
  rw [gd_wanted ha (o := ⟨some d, .call ⟨.builtin .append, #[s, x], #[t, tx]⟩, ty, p, es, g⟩) hg]
  simp only [if_true]
  refine .inl ?_
  obtain ⟨i, h1, h2, h3, h4⟩ := hs.parts
  have hzi : i.zero = some (u8 0) := by have := hz.ok; simpa [h2] using this
  have hku := hk.parts
  have w1 : IntKind.i64.wrap (n : Int) = n := IntWalk.i64_in _ (by omega)
  have hge := grownCap_ge w (0 + n) 0 e
  have hcm : grownCap w (0 + n) 0 e ≤ maxLen := grownCap_le_maxLen w _ 0 e (by simp only [maxLen]; omega)
  have hfit : Builtin.nextslicecap n 0 * i.bytes ≤ 281474976710656 := by
    have := growslice_fits (old := 0) (need := n) (bytes := i.bytes) (by omega) (by rw [h4]; omega)
    exact this
  have e1 : (execOp a.eval ⟨some d, .call ⟨.builtin .append, #[s, x], #[t, tx]⟩, ty, p, es, g⟩).run P w = .ok (.value (.slice (some ⟨w.heap.size, 0, none⟩) (0 + n) (grownCap w (0 + n) 0 e))) (w.drew.alloc (.cells (Builtin.zeroCells (u8 0).cells n ++ Builtin.zeroCells (u8 0).cells (grownCap w (0 + n) 0 e - (0 + n))) e)) := by
    have hn1 : ¬ n = 0 := by omega
    have hn2 : ¬ ((n : Int) < 0) := by omega
    have hn3 : ¬ (281474976710656 < (n : Int)) := by omega
    have hn4 : ¬ (9223372036854775807 < (n : Int)) := by omega
    have hn5 : ¬ (281474976710656 < Builtin.nextslicecap n 0) := by rw [h4] at hfit; omega
    simp [execOp, resolve, invoke, builtin, ha.ev hsv, ha.ev hx, Builtin.append_, run_underlying h1, run_underlying hku, sizeOf, typeInfo, zeroValue, asInt, asIntOf, h2, h3, h4, hzi, w1, hn1, hn2, hn3, hn4, hn5, Question.forced, Builtin.firstCells, newRow, grownCap]
  simp only [Oper.wp, e1, Oper.upon]
  have e3 := h w.heap.size (grownCap w (0 + n) 0 e)
  rw [Nat.zero_add] at e3 hge hcm ⊢
  refine e3 _ ?_ _ (ha.put d _ hd)
  refine hI.grow rfl rfl rfl (by simp) (fun b hb => Below.heap_alloc w.drew _ _ hb) ⟨fun _ _ => rfl, fun hn => by simp [Value.ownBlock] at hn, _, _, by rw [List.length_replicate]⟩ (fun b hb => ?_) (Nat.le_succ _)
  have hb' : w.heap.size = b := by simpa [Sp.own, Value.ownBlock] using hb
  subst hb'
  have hz1 : (u8 0).cells.size = 1 := rfl
  refine ⟨Nat.le_refl _, _, heap_alloc_new w.drew _, w.heap.size, grownCap w n 0 e, _, (0, 0), by rw [List.length_replicate], rfl, .inl rfl, by simpa using hge, hcm, ?_, ?_⟩
  · simp only [Array.size_append, size_zeroCells, hz1]
    omega
  · rw [flat_u8, List.length_replicate, Nat.mul_one]
    have hzc : (Builtin.zeroCells (u8 0).cells n).toList = (List.replicate n 0).map u8 := by
      simp only [Builtin.zeroCells, hz1, Nat.mul_one, Nat.mod_one, Array.toList_map, Array.toList_range, List.map_replicate]
      rw [List.map_const', List.length_range]
      rfl
    have hl : n = ((List.replicate n (0 : UInt8)).map u8).length := by simp
    simp only [Array.toList_append, hzc]
    rw [List.take_left' hl.symm]
end
end Go.Sp
