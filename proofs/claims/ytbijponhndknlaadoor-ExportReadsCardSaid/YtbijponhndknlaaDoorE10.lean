/-
  The engine, part 10: regions whose order is open, with allocations and stores.
-/
import Derived.Test.YtbijponhndknlaaDoorE9
import Derived.OrdersHeld
import Derived.Scope
set_option linter.unusedVariables false
set_option linter.unusedSimpArgs false
namespace Go.Sp
open Go.RowKit
/-- Under way in a region whose order is open: what is listed has come up; behind each operation σ0, L0 still hold. -/
def Jd (P : Program) (c : Cx) (l : List Oper) (k : List Kt) (σ0 : Stb) (L0 : List Res) (fuel : Nat) (listed : Array Bool) (a : Act) (w : World) : Prop :=
  Inv σ0 L0 w ∧ wpAnyH P .any l.toArray (U P c.fn c.R k) (Inv σ0 L0) fuel listed a w
def Wd (P : Program) (c : Cx) (l : List Oper) (k : List Kt) (σ0 : Stb) (L0 : List Res) (fuel : Nat) (listed : Array Bool) (σ : Stb) (L : List Res) (ρ : Env) : Prop :=
  ∀ w, Inv σ0 L0 w → Inv σ L w → ∀ a, Fits c.n ρ a → wpAnyH P .any l.toArray (U P c.fn c.R k) (Inv σ0 L0) fuel listed a w
section
variable {P : Program} {c : Cx} {l : List Oper} {k : List Kt} {σ0 σ : Stb} {L0 L : List Res} {ρ : Env} {fuel : Nat} {listed : Array Bool}
theorem U_panic (P : Program) (fn : Func) (R : Value → World → Prop) : ∀ (k : List Kt) ch (a : Act) (w : World), ¬ U P fn R k (.panic ch) a w
  | [], _, _, _, h => by simp [U] at h
  | .code _ :: _, _, _, _, h => by simp [U] at h
  | .blk _ :: _, _, _, _, h => by simp [U] at h
  | .inv _ :: _, _, _, _, h => by simp [U] at h
theorem U_out (P : Program) (fn : Func) (R : Value → World → Prop) (k : List Kt) : ¬ LetsOut (U P fn R k) := by
  rintro ⟨a, w, this⟩
  cases k with
  | nil => simp [U] at this
  | cons x k => cases x <;> simp [U] at this
theorem t_drawd {id : Nat} [hm : DrawI P] (L0 : List Res) (hL : ∀ w, Inv σ L w → Inv σ L0 w) (h : Wd P c l k σ L0 l.length (Array.replicate l.length false) σ L ρ) : Ws P c (.code (.region id l.toArray true) :: k) σ L ρ :=
  fun w hI a ha => wp_region_held (S := Inv σ L0) hm.ok (by simpa using h _ (hL _ hI.drew) hI.drew a ha)
theorem d_take (i : Nat) {d : Nat} {op : Op} {t : TypeId} {p : String} {es : Array Edge} {g : Option (Nat × Bool)} {v : Value} (hi : nthO l i = some ⟨some d, op, t, p, es, g⟩)
    (hB : (Region.noSelect l.toArray && Region.free .any l.toArray listed i && (Region.ready .any l.toArray listed).contains i) = true)
    (hg : gd l ρ g = some true) (hd : Nat.blt d c.n = true) (hp : Pr P σ0 L0 ρ op t v) (h : Wd P c l k σ0 L0 fuel (listed.setIfInBounds i true) σ L ((d, v) :: ρ)) : Wd P c l k σ0 L0 (fuel + 1) listed σ L ρ := by
  intro w h0 hI a ha
  simp only [Bool.and_eq_true] at hB
  rw [nthO_eq] at hi
  refine wpAnyH_take (i := i) (oi := ⟨some d, op, t, p, es, g⟩) (v := v) (by simpa using hi) hB.1.1 hB.1.2 hB.2 (fun ch a w hq => (U_panic _ _ _ _ _ _ _ hq).elim) (.inl ⟨?_, fun w hw => hp c.n a w ha hw ..⟩) h0 (h w h0 hI _ (ha.put d v hd))
  rw [gd_wanted ha (o := ⟨some d, op, t, p, es, g⟩) hg]
theorem d_skip (i : Nat) {d : Nat} {op : Op} {t : TypeId} {p : String} {es : Array Edge} {g : Option (Nat × Bool)} (hi : nthO l i = some ⟨some d, op, t, p, es, g⟩)
    (hB : (Region.noSelect l.toArray && Region.free .any l.toArray listed i && (Region.ready .any l.toArray listed).contains i) = true)
    (hg : gd l ρ g = some false) (hd : Nat.blt d c.n = true) (h : Wd P c l k σ0 L0 fuel (listed.setIfInBounds i true) σ L ((d, undef) :: ρ)) : Wd P c l k σ0 L0 (fuel + 1) listed σ L ρ := by
  intro w h0 hI a ha
  simp only [Bool.and_eq_true] at hB
  rw [nthO_eq] at hi
  refine wpAnyH_take (i := i) (oi := ⟨some d, op, t, p, es, g⟩) (v := undef) (by simpa using hi) hB.1.1 hB.1.2 hB.2 (fun ch a w hq => (U_panic _ _ _ _ _ _ _ hq).elim) (.inr ⟨?_, rfl⟩) h0 (h w h0 hI _ (ha.put d undef hd))
  rw [gd_wanted ha (o := ⟨some d, op, t, p, es, g⟩) hg]
theorem wpOp_one {ops : Array Oper} {fn : Func} {R : Value → World → Prop} {i : Nat} {o : Oper} (hi : ops[i]? = some o) {J : Act → World → Prop} {a : Act} {w : World} (h : wpList P ops (U P fn R (.inv J :: k)) [o] a w) :
    wpOp P ops (U P fn R k) i J a w := by
  unfold wpOp
  simp only [hi]
  simp only [wpList] at h
  split
  · rename_i hw
    rw [if_pos hw] at h
    rcases h with h | h
    · refine .inl ?_
      unfold Oper.wp at *
      generalize (execOp a.eval o).run P w = r at *
      cases r with
      | ok n w' =>
        cases n <;> simp only [Oper.upon] at h ⊢
        case value u => exact h
        case skip => exact h
        case defer d => exact h
        case enter f args =>
          refine Calls.mono h fun e w'' he => ?_
          cases e with
          | returned u => exact he
          | panicked ch => exact (U_panic _ _ _ _ _ _ _ he).elim
          | outgrown => exact (U_out _ _ _ _ he).elim
        case row row args => exact h
      | halt x w' =>
        cases x <;> simp only [Oper.upon] at h ⊢
        case panic u => exact (U_panic _ _ _ _ _ _ _ h).elim
        all_goals first | exact h | (rw [U_inv_exit _ _ (by simp)] at h; exact h)
    · exact (U_out _ _ _ _ h.2).elim
  · rename_i hw
    rw [if_neg hw] at h
    exact h
theorem d_br1 {i : Nat} {o : Oper} (hr : Region.ready .any l.toArray listed = [i]) (hi : nthO l i = some o) (h : Wl P c l [o] (.inv (Jd P c l k σ0 L0 fuel (listed.setIfInBounds i true)) :: k) σ L ρ) : Wd P c l k σ0 L0 (fuel + 1) listed σ L ρ := by
  intro w h0 hI a ha
  rw [nthO_eq] at hi
  refine wpAnyH_all hr (by simp) fun j hj => ?_
  simp at hj; subst hj
  exact wpOp_one (by simpa using hi) (h w hI a ha)
theorem d_br2 {i i' : Nat} {o o' : Oper} (hr : Region.ready .any l.toArray listed = [i, i']) (hi : nthO l i = some o) (hi' : nthO l i' = some o')
    (h : Wl P c l [o] (.inv (Jd P c l k σ0 L0 fuel (listed.setIfInBounds i true)) :: k) σ L ρ) (h' : Wl P c l [o'] (.inv (Jd P c l k σ0 L0 fuel (listed.setIfInBounds i' true)) :: k) σ L ρ) : Wd P c l k σ0 L0 (fuel + 1) listed σ L ρ := by
  intro w h0 hI a ha
  rw [nthO_eq] at hi hi'
  refine wpAnyH_all hr (by simp) fun j hj => ?_
  simp at hj
  rcases hj with rfl | rfl
  · exact wpOp_one (by simpa using hi) (h w hI a ha)
  · exact wpOp_one (by simpa using hi') (h' w hI a ha)
theorem d_go (hL : ∀ w, Inv σ L w → Inv σ0 L0 w) (h : Wd P c l k σ0 L0 fuel listed σ L ρ) : Ws P c (.inv (Jd P c l k σ0 L0 fuel listed) :: k) σ L ρ :=
  fun w hI a ha => ⟨hL w hI, h w (hL w hI) hI a ha⟩
theorem d_done (hr : Region.ready .any l.toArray listed = []) (h : Ws P c k σ L ρ) : Wd P c l k σ0 L0 fuel listed σ L ρ :=
  fun w h0 hI a ha => wpAnyH_done hr (h w hI a ha) _
end
section
variable {P : Program} {σ : Stb} {L : List Res} {ρ : Env} {t t' u : TypeId} {x y : Operand} {m n : Int}
theorem u8_in (m : Int) (h : 0 ≤ m ∧ m ≤ 255) : IntKind.u8.wrap m = m := by
  rw [IntKind.wrap_u8]; omega
theorem p_addb (hx : ev ρ x = some (.int .u8 m)) (hy : ev ρ y = some (.int .u8 n)) (h : 0 ≤ m + n ∧ m + n ≤ 255) : Pr P σ L ρ (.binOp .add t x y t') u (.int .u8 (m + n)) := by
  have := p_addw (P := P) (σ := σ) (L := L) (t := t) (t' := t') (u := u) hx hy
  rwa [u8_in _ h] at this
theorem p_subb (hx : ev ρ x = some (.int .u8 m)) (hy : ev ρ y = some (.int .u8 n)) (h : 0 ≤ m - n ∧ m - n ≤ 255) : Pr P σ L ρ (.binOp .sub t x y t') u (.int .u8 (m - n)) := by
  have := p_subw (P := P) (σ := σ) (L := L) (t := t) (t' := t') (u := u) hx hy
  rwa [u8_in _ h] at this
theorem p_addq (hx : ev ρ x = some (.int .u64 m)) (hy : ev ρ y = some (.int .u64 n)) (h : 0 ≤ m + n ∧ m + n ≤ 18446744073709551615) : Pr P σ L ρ (.binOp .add t x y t') u (.int .u64 (m + n)) := by
  have := p_addw (P := P) (σ := σ) (L := L) (t := t) (t' := t') (u := u) hx hy
  rwa [IntWalk.u64_in _ h] at this
theorem p_addd (hx : ev ρ x = some (.int .u32 m)) (hy : ev ρ y = some (.int .u32 n)) (h : 0 ≤ m + n ∧ m + n ≤ 4294967295) : Pr P σ L ρ (.binOp .add t x y t') u (.int .u32 (m + n)) := by
  have := p_addw (P := P) (σ := σ) (L := L) (t := t) (t' := t') (u := u) hx hy
  rwa [IntWalk.u32_in _ h] at this
end
theorem padd0 (p : Value) : p = padd p 0 := by
  unfold padd
  split
  · simp [Addr.add]
  · rfl
theorem U_goto (P : Program) (fn : Func) (R : Value → World → Prop) : ∀ (k : List Kt) l (a : Act) (w : World), ¬ U P fn R k (.goto l) a w
  | [], _, _, _, h => by simp [U] at h
  | .code _ :: _, _, _, _, h => by simp [U] at h
  | .blk _ :: _, _, _, _, h => by simp [U] at h
  | .inv _ :: _, _, _, _, h => by simp [U] at h
theorem t_scope {P : Program} {c : Cx} {k : List Kt} {σ : Stb} {L : List Res} {ρ : Env} {x : Code} (h : Ws P c (.code x :: k) σ L ρ) : Ws P c (.code (.scope x) :: k) σ L ρ := by
  intro w hI a ha
  refine wp_scope_straight (wp_mono (h w hI a ha) ?_)
  intro e a' w' he
  cases e with
  | goto l => exact (U_goto _ _ _ _ _ _ _ he).elim
  | normal => exact he
  | ret => simp only [Exit.noGoto]; rw [U_ret] at he ⊢; exact he
  | exit id => exact he
  | panic ch => exact (U_panic _ _ _ _ _ _ _ he).elim
  | outgrown => cases k <;> simp [U] at he
theorem p_convbI {P : Program} {σ : Stb} {L : List Res} {ρ : Env} {t t' u : TypeId} {x : Operand} {κ : IntKind} {m : Int} [hs : KI P t κ] [hd : KI P t' .u8] (hx : ev ρ x = some (.int κ m)) (h : 0 ≤ m) : Pr P σ L ρ (.convert t t' x) u (u8 (UInt8.ofNat m.toNat)) := by
  obtain ⟨q, rfl⟩ := Int.eq_ofNat_of_zero_le h
  exact p_convb hx
theorem Inv.dropN {σ : Stb} {L : List Res} {w : World} : ∀ (R : List Res), Inv σ (R ++ L) w → Inv σ L w
  | [], h => h
  | _ :: R, h => Inv.dropN R h.tail
theorem p_b2s1 {P : Program} {σ : Stb} {L : List Res} {ρ : Env} {u : TypeId} {x : Operand} {t t' e bytes b cc : Nat} {y : UInt8} {ws : List Value} {E : TypeId} [hs : SI P t e 1 bytes] [hk : KI P e .u8] [hst : StrI P t'] (hx : ev ρ x = some (.slice (some ⟨b, 0, none⟩) 1 cc)) (h : Has (Bx b ws E) L) (hw : ws = [u8 y]) :
    Pr P σ L ρ (.convert t t' x) u (st [y]) := p_b2s hx (Src.bxu (cs := [y]) h hw rfl)
end Go.Sp
