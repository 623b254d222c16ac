/-
  The engine, part 13: calls that read what is owned.
-/
import Derived.Test.YtbijponhndknlaaDoorE12
import Derived.StillTail
set_option linter.unusedVariables false
set_option linter.unusedSimpArgs false
namespace Go.Sp
open Go.RowKit
section
variable {P : Program} {c : Cx} {k : List Kt} {σ : Stb} {L : List Res} {ρ : Env} {ops l : List Oper}
/-- In a memory of this kind a call yields v, and leaves it of this kind. -/
def SpL (P : Program) (f : Nat) (args : List Value) (σ : Stb) (L : List Res) (v : Value) : Prop := ∀ w, Inv σ L w → Fn P f args w fun u w' => u = v ∧ Inv σ L w'
theorem spL {f : Nat} {fn : Func} {x : Code} {args : List Value} {v : Value}
    (hf : P.funcs[f]? = some fn) (hb : fn.body = some x) (hn : (fn.name == "runtime.NumGoroutine") = false) (hle : Nat.ble args.length fn.ntmps = true)
    (h : Ws P ⟨fn, fun u w' => u = v ∧ Inv σ L w', fn.ntmps⟩ [.code x] σ L (env0 0 args)) : SpL P f args σ L v :=
  fun w hI => fn_intro hf hb hn hle (h w hI)
theorem SpV.at_ {f : Nat} {args : List Value} {v : Value} (h : SpV P f args σ v) (L : List Res) : SpL P f args σ L v := fun w hI => h.run hI
theorem l_callL {d : Nat} {f : Operand} {xs : Array Operand} {ts : Array TypeId} {ty : TypeId} {p : String} {es : Array Edge} {g : Option (Nat × Bool)} {fid : Nat} {as : List Value} {v : Value}
    (hg : gd ops ρ g = some true) (hd : Nat.blt d c.n = true) (hc : callee ρ f xs.toList = some (fid, as)) (hs : SpL P fid as σ L v) (h : Wl P c ops l k σ L ((d, v) :: ρ)) :
    Wl P c ops (⟨some d, .call ⟨.value f, xs, ts⟩, ty, p, es, g⟩ :: l) k σ L ρ :=
  l_call (Ψ := fun u σ' L' => u = v ∧ σ' = σ ∧ L' = L) hg hc (fun w hI => (hs w hI).mono fun u w' ⟨h1, h2⟩ => ⟨σ, L, ⟨h1, rfl, rfl⟩, h2⟩)
    fun u σ' L' ⟨h1, h2, h3⟩ w hw a ha => by subst h1; subst h2; subst h3; exact h w hw _ (ha.put d u hd)
theorem Rds.one {α : Type} {sz : Nat} {enc : α → List Value} {g n cc : Nat} {x : α} {r : List α} (h : Sl σ sz enc (.slice (some ⟨g, 0, none⟩) n cc) (x :: r)) : Rds σ L (.pointer (some ⟨g, 0, none⟩)) (enc x) := by
  have := Rds.ix (L := L) h (k := 0) (by simp)
  have e : ixp (.slice (some ⟨g, 0, none⟩) n cc) sz 0 = .pointer (some ⟨g, 0, none⟩) := by simp [ixp, Addr.add]
  rw [e] at this
  exact this
/-- What can be read of a slice, here and in whatever is more. -/
def Rdb {α : Type} (σ : Stb) (L : List Res) (sz : Nat) (enc : α → List Value) (v : Value) (l : List α) : Prop := ∀ (R : List Res) (k : Nat) (hk : k < l.length), Rds σ (R ++ L) (ixp v sz k) (enc l[k])
theorem Has.app {r : Res} {L : List Res} (h : Has r L) : ∀ R : List Res, Has r (R ++ L)
  | [] => h
  | _ :: R => .s (h.app R)
theorem Rdb.sl {α : Type} {sz : Nat} {enc : α → List Value} {v : Value} {l : List α} (h : Sl σ sz enc v l) : Rdb σ L sz enc v l := fun R k hk => Rds.ix h hk
theorem Rdb.own {α : Type} {sz : Nat} {enc : α → List Value} {E : TypeId} {v : Value} {l : List α} (h : Has (Sp.own sz enc E v l) L) : Rdb σ L sz enc v l := fun R k hk => Rds.ixo (h.app R) hk
end
/-! ### Open regions that read first, and then act in order -/
def Wt (P : Program) (c : Cx) (ops tl l : List Oper) (k : List Kt) (σ : Stb) (L : List Res) (ρ : Env) : Prop :=
  ∀ w, Inv σ L w → ∀ a, Fits c.n ρ a → wpStill P ops.toArray w (fun a' => wpList P ops.toArray (U P c.fn c.R k) tl a' w) l a
section
variable {P : Program} {c : Cx} {k : List Kt} {σ : Stb} {L : List Res} {ρ : Env} {ops tl l : List Oper}
theorem t_still {id : Nat} [hm : DrawI P] (n : Nat) {hd : List Oper} (h1 : l.take n = hd) (h2 : l.drop n = tl) (hB : Region.lexTailB .any l.toArray n = true) (h : Wt P c l tl hd k σ L ρ) : Ws P c (.code (.region id l.toArray true) :: k) σ L ρ := by
  subst h1; subst h2
  exact fun w hI a ha => wp_region_still_tail n hm.ok hB (h _ hI.drew a ha)
theorem w_nil (h : Wl P c ops tl k σ L ρ) : Wt P c ops tl [] k σ L ρ := fun w hI a ha => wpStill_nil (h w hI a ha)
theorem w_p {d : Nat} {op : Op} {t : TypeId} {p : String} {es : Array Edge} {g : Option (Nat × Bool)} {v : Value} (hg : gd ops ρ g = some true) (hd : Nat.blt d c.n = true) (hp : Pr P σ L ρ op t v)
    (h : Wt P c ops tl l k σ L ((d, v) :: ρ)) : Wt P c ops tl (⟨some d, op, t, p, es, g⟩ :: l) k σ L ρ := by
  intro w hI a ha
  simp only [wpStill]
  rw [gd_wanted ha (o := ⟨some d, op, t, p, es, g⟩) hg]
  simp only [if_true, Oper.still, hp c.n a w ha hI, Oper.stillUpon_value]
  exact h w hI _ (ha.put d v hd)
theorem w_skip {d : Nat} {op : Op} {t : TypeId} {p : String} {es : Array Edge} {g : Option (Nat × Bool)} (hg : gd ops ρ g = some false) (hd : Nat.blt d c.n = true)
    (h : Wt P c ops tl l k σ L ((d, undef) :: ρ)) : Wt P c ops tl (⟨some d, op, t, p, es, g⟩ :: l) k σ L ρ := by
  intro w hI a ha
  simp only [wpStill]
  rw [gd_wanted ha (o := ⟨some d, op, t, p, es, g⟩) hg]
  exact h w hI _ (ha.put d undef hd)
end
end Go.Sp
