/-
  The engine, part 9: maps.
-/
import Derived.Test.YtbijponhndknlaaDoorE8
set_option linter.unusedVariables false
set_option linter.unusedSimpArgs false
namespace Go.Sp
open Go.RowKit
def miB (P : Program) (t key e size : Nat) : Bool :=
  match P.underlying t, P.info? e with
  | some (.map k' e'), some i => Nat.beq k' key && Nat.beq e' e && Nat.beq i.size size
  | _, _ => false
class MI (P : Program) (t : Nat) (key e size : outParam Nat) : Prop where
  ok : miB P t key e size = true
end Go.Sp
namespace Go.Sp
open Go.RowKit
section
variable {P : Program} {c : Cx} {k : List Kt} {σ : Stb} {L : List Res} {ρ : Env} {ops l : List Oper}
/-- A call whose answer is known. -/
def SpV (P : Program) (f : Nat) (args : List Value) (σ : Stb) (v : Value) : Prop := Sp0 P f args σ fun u _ => u = v
theorem spv {P : Program} {f : Nat} {fn : Func} {c : Code} {args : List Value} {σ : Stb} {v : Value}
    (hf : P.funcs[f]? = some fn) (hb : fn.body = some c) (hn : (fn.name == "runtime.NumGoroutine") = false) (hle : Nat.ble args.length fn.ntmps = true)
    (h : ∀ F, Ws P ⟨fn, fun u w' => u = v ∧ Inv σ F w', fn.ntmps⟩ [.code c] σ F (env0 0 args)) : SpV P f args σ v :=
  fun F w hI => (fn_intro (φ := fun u w' => u = v ∧ Inv σ F w') hf hb hn hle (h F w hI)).mono fun u w' ⟨h1, h2⟩ => ⟨σ, .refl σ, h1, h2⟩
theorem SpV.run {P : Program} {f : Nat} {args : List Value} {σ : Stb} {v : Value} (h : SpV P f args σ v) {F : List Res} {w : World} (hI : Inv σ F w) : Fn P f args w fun u w' => u = v ∧ Inv σ F w' :=
  (h F w hI).mono fun u w' ⟨σ', h1, h2, h3⟩ => ⟨h2, h3.weaken h1⟩
theorem l_callv {d : Nat} {f : Operand} {xs : Array Operand} {ts : Array TypeId} {ty : TypeId} {p : String} {es : Array Edge} {g : Option (Nat × Bool)} {fid : Nat} {as : List Value} {v : Value}
    (hg : gd ops ρ g = some true) (hd : Nat.blt d c.n = true) (hc : callee ρ f xs.toList = some (fid, as)) (hs : SpV P fid as σ v) (h : Wl P c ops l k σ L ((d, v) :: ρ)) :
    Wl P c ops (⟨some d, .call ⟨.value f, xs, ts⟩, ty, p, es, g⟩ :: l) k σ L ρ :=
  l_call (Ψ := fun u σ' L' => u = v ∧ σ' = σ ∧ L' = L) hg hc (fun w hI => (hs.run hI).mono fun u w' ⟨h1, h2⟩ => ⟨σ, L, ⟨h1, rfl, rfl⟩, h2⟩)
    fun u σ' L' ⟨h1, h2, h3⟩ w hw a ha => by subst h1; subst h2; subst h3; exact h w hw _ (ha.put d u hd)
theorem q_callv {d : Nat} {f : Operand} {xs : Array Operand} {ts : Array TypeId} {ty : TypeId} {p : String} {es : Array Edge} {g : Option (Nat × Bool)} {fid : Nat} {as : List Value} {v : Value}
    (hg : gd ops ρ g = some true) (hd : Nat.blt d c.n = true) (hc : callee ρ f xs.toList = some (fid, as)) (hs : SpV P fid as σ v) (h : Wq P c ops l k σ L ((d, v) :: ρ)) :
    Wq P c ops (⟨some d, .call ⟨.value f, xs, ts⟩, ty, p, es, g⟩ :: l) k σ L ρ :=
  q_call0 hg hd hc hs (fun _ _ _ h => h) h
/-- A function without a body. -/
theorem p_extern {f : Operand} {xs : Array Operand} {ts : Array TypeId} {u : TypeId} {fid : Nat} {as : List Value} {fn : Func} {e : Array Value → Sem Value} {v : Value} (hc : callee ρ f xs.toList = some (fid, as)) (hf : P.funcs[fid]? = some fn)
    (hname : (fn.name == "runtime.NumGoroutine") = false) (hb : fn.body.isNone = true) (hn : Extern.findNext fn = none) (he : Extern.find fn = some e) (hr : ∀ w, Inv σ L w → (e as.toArray).run P w = .ok v w) :
    Pr P σ L ρ (.call ⟨.value f, xs, ts⟩) u v := by
  intro n a w ha hI d p es g
  unfold callee at hc
  split at hc
  · rename_i fs cs hfe
    split at hc
    · rename_i vs hvs
      cases hc
      have hargs : (xs.map a.eval) = vs.toArray := by rw [← ha.evs hvs, arr_map]
      have h1 := run_callFunc_extern (P := P) hf hname hb hn he (appV fs (appV vs cs)).toArray w
      rw [hr w hI, app_eq, app_eq] at h1
      simp only [Result.andThen_ok] at h1
      simp only [execOp, resolve, hargs, ha.ev hfe, Deferred.ofValue, Sem.run_bind, Sem.run_pure, Result.andThen_ok, invoke]
      simpa using h1
    · cases hc
  · cases hc
theorem p_sixI {a : List UInt8} {κ : IntKind} {t u : TypeId} {x y : Operand} [hs : StrI P t] (hx : ev ρ x = some (st a)) {m : Int} (hy : ev ρ y = some (.int κ m)) (hi : 0 ≤ m ∧ m < a.length) : Pr P σ L ρ (.index t x y) u (u8 (a[m.toNat]'(by omega))) :=
  p_six m.toNat hx hy (by omega) (by omega)
theorem p_sslI {a : List UInt8} {κ κ' : IntKind} {t u : TypeId} {x : Operand} [hs : StrI P t] (hx : ev ρ x = some (st a)) {lo hi : Operand} {m m' : Int} (hl : ev ρ lo = some (.int κ m)) (hh : ev ρ hi = some (.int κ' m')) (h : 0 ≤ m ∧ m ≤ m' ∧ m' ≤ a.length) :
    Pr P σ L ρ (.slice t x (some lo) (some hi) none) u (st ((a.take m'.toNat).drop m.toNat)) := p_ssl m.toNat m'.toNat hx hl hh (by omega) (by omega) (by omega) (by omega)
theorem p_ssllI {a : List UInt8} {κ : IntKind} {t u : TypeId} {x : Operand} [hs : StrI P t] (hx : ev ρ x = some (st a)) {lo : Operand} {m : Int} (hl : ev ρ lo = some (.int κ m)) (hi : 0 ≤ m ∧ m ≤ a.length) :
    Pr P σ L ρ (.slice t x (some lo) none none) u (st (a.drop m.toNat)) := p_ssll m.toNat hx hl (by omega) (by omega)
theorem p_sslhI {a : List UInt8} {κ : IntKind} {t u : TypeId} {x : Operand} [hs : StrI P t] (hx : ev ρ x = some (st a)) {hi : Operand} {m' : Int} (hh : ev ρ hi = some (.int κ m')) (hj : 0 ≤ m' ∧ m' ≤ a.length) :
    Pr P σ L ρ (.slice t x none (some hi) none) u (st (a.take m'.toNat)) := p_sslh m'.toNat hx hh (by omega) (by omega)
end
theorem Inv.below {W w' : World} {L : List Res} (h : Inv (Stb.of W) L w') : Below W.heap.size W w' :=
  ⟨h.os, h.tape, h.output, h.size, fun k hk => by
    have h1 : (Stb.of W).blk k = some W.heap[k] := by simp [Stb.of, hk]
    rw [h.agree k _ h1]; simp [hk]⟩
/-- What a law's row asks: true, and nothing that was there has turned. -/
theorem law_calls {P : Program} {f : Nat} {args : List Value} {W : World} (h : Sp0 P f args (Stb.of W) fun v _ => v = .bool true) :
    Calls P f args.toArray W fun e W' => e = .returned (.bool true) ∧ Below W.heap.size W W' :=
  (h [] W (Inv.of W)).calls.mono fun e W' he => by
    cases e with
    | returned v => obtain ⟨σ', h1, h2, h3⟩ := he; exact ⟨by rw [h2], (h3.weaken h1).below⟩
    | panicked c => exact he.elim
    | outgrown => exact he.elim
end Go.Sp
