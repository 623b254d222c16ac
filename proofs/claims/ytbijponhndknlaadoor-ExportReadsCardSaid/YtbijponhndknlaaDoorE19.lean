/-
  The engine, part 19: interface values: nil or not, methods, assertions; functions without a body that act.
-/
import Derived.Test.YtbijponhndknlaaDoorE18
import Derived.Stop.IfaceNil
import Derived.Stop.Asserts
set_option linter.unusedVariables false
set_option linter.unusedSimpArgs false
namespace Go.Sp
open Go.RowKit
section
variable {P : Program} {c : Cx} {k : List Kt} {σ : Stb} {L : List Res} {ρ : Env} {ops l : List Oper} {t t' u : TypeId} {x : Operand}
theorem p_ieq {dt : TypeId} {v : Value} (h : P.isIface t = true) (hx : ev ρ x = some (.iface dt v)) : Pr P σ L ρ (.binOp .eql t x (.const .nilIface) t') u (.bool false) :=
  p_bin hx rfl fun w => ⟨by rw [eqGuard_at_iface]; rfl, run_eql_iface_nil w t h dt v⟩
theorem p_ieq0 (h : P.isIface t = true) (hx : ev ρ x = some .nilIface) : Pr P σ L ρ (.binOp .eql t x (.const .nilIface) t') u (.bool true) :=
  p_bin hx rfl fun w => ⟨by rw [eqGuard_nil_constR]; rfl, run_eql_nil_nil_at w t h⟩
theorem p_ine {dt : TypeId} {v : Value} (h : P.isIface t = true) (hx : ev ρ x = some (.iface dt v)) : Pr P σ L ρ (.binOp .neq t x (.const .nilIface) t') u (.bool true) :=
  p_bin hx rfl fun w => ⟨by rw [eqGuard_at_iface]; rfl, run_neq_iface_nil w t h dt v⟩
theorem p_ine0 (h : P.isIface t = true) (hx : ev ρ x = some .nilIface) : Pr P σ L ρ (.binOp .neq t x (.const .nilIface) t') u (.bool false) :=
  p_bin hx rfl fun w => ⟨by rw [eqGuard_nil_constR]; rfl, run_neq_nil_nil_at w t h⟩
theorem p_ta {xt asserted : TypeId} {dt : TypeId} {v r : Value} (hx : ev ρ x = some (.iface dt v)) (hr : ∀ w, (Instr.typeAssert (.iface dt v) xt asserted true).run P w = .ok r w) : Pr P σ L ρ (.typeAssert x xt asserted true) u r := by
  intro n a w ha hI d pp es g
  simp only [execOp, ha.ev hx, Sem.run_bind, hr w, Result.andThen_ok, Sem.run_pure]
theorem l_extG {d : Nat} {f : Operand} {xs : Array Operand} {ts : Array TypeId} {ty : TypeId} {p : String} {es : Array Edge} {g : Option (Nat × Bool)} {fid : Nat} {xs0 : List Value} {fn : Func} {e : Array Value → Sem Value} {Ψ : Value → Stb → List Res → Prop}
    (hg : gd ops ρ g = some true) (hd : Nat.blt d c.n = true) (hc : callee ρ f xs.toList = some (fid, xs0)) (hf : P.funcs[fid]? = some fn) (hname : (fn.name == "runtime.NumGoroutine") = false) (hb : fn.body.isNone = true) (hn : Extern.findNext fn = none) (he : Extern.find fn = some e)
    (hr : ∀ w, Inv σ L w → ∃ v σ' L' w', (e xs0.toArray).run P w = .ok v w' ∧ Ψ v σ' L' ∧ Inv σ' L' w') (h : ∀ v σ' L', Ψ v σ' L' → Wl P c ops l k σ' L' ((d, v) :: ρ)) :
    Wl P c ops (⟨some d, .call ⟨.value f, xs, ts⟩, ty, p, es, g⟩ :: l) k σ L ρ := by
  intro w hI a ha
  simp only [wpList]
  rw [gd_wanted ha (o := ⟨some d, .call ⟨.value f, xs, ts⟩, ty, p, es, g⟩) hg]
  simp only [if_true]
  refine .inl ?_
  obtain ⟨v, σ', L', w', h1, h2, h3⟩ := hr w hI
  unfold callee at hc
  split at hc
  · rename_i fs cs hfe
    split at hc
    · rename_i vs hvs
      cases hc
      have hargs : (xs.map a.eval) = vs.toArray := by rw [← ha.evs hvs, arr_map]
      have h4 := run_callFunc_extern (P := P) hf hname hb hn he (appV fs (appV vs cs)).toArray w
      rw [h1, app_eq, app_eq] at h4
      simp only [Result.andThen_ok] at h4
      have e1 : (execOp a.eval ⟨some d, .call ⟨.value f, xs, ts⟩, ty, p, es, g⟩).run P w = .ok (.value v) w' := by
        simp only [execOp, resolve, hargs, ha.ev hfe, Deferred.ofValue, Sem.run_bind, Sem.run_pure, Result.andThen_ok, invoke]
        simpa using h4
      simp only [Oper.wp, e1, Oper.upon]
      exact h v σ' L' h2 w' h3 _ (ha.put d _ hd)
    · cases hc
  · cases hc
theorem run_invoke {n : Nat} {a : Act} {w : World} {recv : Operand} {name : String} {xs : Array Operand} {ts : Array TypeId} {dt : TypeId} {v rv : Value} {fid : Nat} {vs : List Value} {r : Result Next} (ha : Fits n ρ a) (hx : ev ρ recv = some (.iface dt v)) (hxs : evs ρ xs.toList = some vs)
    (hm : ∀ w, (Go.method (P.types.size + Made.depth) dt v name).run P w = .ok (fid, rv) w) (hr : (callFunc fid (rv :: vs).toArray).run P w = r) (d : Option Tmp) (ty : TypeId) (p : String) (es : Array Edge) (g : Option (Nat × Bool)) :
    (execOp a.eval ⟨d, .call ⟨.invoke recv name, xs, ts⟩, ty, p, es, g⟩).run P w = r := by
  have hargs : (xs.map a.eval) = vs.toArray := by rw [← ha.evs hxs, arr_map]
  subst hr
  simp [execOp, resolve, hargs, ha.ev hx, invoke, callMethod, run_program, hm w]
theorem p_invoke {recv : Operand} {name : String} {xs : Array Operand} {ts : Array TypeId} {dt : TypeId} {v rv r : Value} {fid : Nat} {vs : List Value} {fn : Func} {e : Array Value → Sem Value} (hx : ev ρ recv = some (.iface dt v)) (hxs : evs ρ xs.toList = some vs)
    (hm : ∀ w, (Go.method (P.types.size + Made.depth) dt v name).run P w = .ok (fid, rv) w) (hf : P.funcs[fid]? = some fn) (hname : (fn.name == "runtime.NumGoroutine") = false) (hb : fn.body.isNone = true) (hn : Extern.findNext fn = none) (he : Extern.find fn = some e)
    (hr : ∀ w, Inv σ L w → (e (rv :: vs).toArray).run P w = .ok r w) : Pr P σ L ρ (.call ⟨.invoke recv name, xs, ts⟩) u r := by
  intro n a w ha hI d pp es g
  refine run_invoke ha hx hxs hm ?_ d u pp es g
  rw [run_callFunc_extern (P := P) hf hname hb hn he _ w, hr w hI]
  rfl
theorem l_invL {d : Nat} {recv : Operand} {name : String} {xs : Array Operand} {ts : Array TypeId} {ty : TypeId} {p : String} {es : Array Edge} {g : Option (Nat × Bool)} {dt : TypeId} {v rv r : Value} {fid : Nat} {vs : List Value}
    (hg : gd ops ρ g = some true) (hd : Nat.blt d c.n = true) (hx : ev ρ recv = some (.iface dt v)) (hxs : evs ρ xs.toList = some vs) (hm : ∀ w, (Go.method (P.types.size + Made.depth) dt v name).run P w = .ok (fid, rv) w) (hs : SpL P fid (rv :: vs) σ L r) (h : Wl P c ops l k σ L ((d, r) :: ρ)) :
    Wl P c ops (⟨some d, .call ⟨.invoke recv name, xs, ts⟩, ty, p, es, g⟩ :: l) k σ L ρ := by
  intro w hI a ha
  simp only [wpList]
  rw [gd_wanted ha (o := ⟨some d, .call ⟨.invoke recv name, xs, ts⟩, ty, p, es, g⟩) hg]
  simp only [if_true]
  refine .inl ?_
  have hfn := hs w hI
  obtain ⟨fn, h1, h2, h3⟩ := hfn.fun_
  have e1 := run_invoke (ts := ts) (r := .ok (.enter fid (rv :: vs).toArray) w) ha hx hxs hm (by simp only [callFunc, Sem.run_bind, run_program, Result.andThen_ok, h1, h3, h2, Bool.false_eq_true, if_false]; rfl) (some d) ty p es g
  simp only [Oper.wp, e1, Oper.upon]
  refine hfn.calls.mono fun e w' he => ?_
  cases e with
  | returned v => obtain ⟨rfl, h2⟩ := he; exact h w' h2 _ (ha.put d _ hd)
  | panicked ch => exact he.elim
  | outgrown => exact he.elim
theorem run_set1 {b : Nat} {T : TypeId} {old new : Value} {L' : List Res} {w : World} (hu : Upd (Bx b [old] T) (Bx b [new] T) L L') (h1 : new.oneCell' = true) (hI : Inv σ L w) : ∃ w', (storeCells (⟨b, 0, none⟩ : Addr) [new] 0).run P w = .ok () w' ∧ Inv σ L' w' := by
  obtain ⟨ob, hob, hok⟩ := hI.own _ hu.has.mem b rfl
  have : ob = .cells [old].toArray T (0, 0) := hok
  subst this
  refine ⟨_, run_storeCells_my P b 0 T (0, 0) [new] 0 _ w hob (.inl rfl) (by simp) (by simpa using h1), ?_⟩
  refine Inv.upd hI hu rfl rfl rfl (by simp) (fun b' _ hb' => setRow_blk _ _ _ _ fun (e : b' = b) => hb' (by rw [e]; rfl)) trivial (fun b' hb' => ?_) (Nat.le_refl _)
  cases hb'
  exact ⟨.inl rfl, _, setRow_same _ _ _ _ _ _ hob, rfl⟩
theorem Rds.blk {b : Nat} {cs : List Value} {T : TypeId} {fr : Nat × Nat} (h : σ.blk b = some (.cells cs.toArray T fr)) : Rds σ L (.pointer (some ⟨b, 0, none⟩)) cs := by
  intro w hI
  exact ⟨_, rfl, fun j u hu => by rw [add_at, cell_of_row w b _ _ _ _ (hI.agree _ _ h)]; simpa using hu⟩
theorem cell_blk {b : Nat} {v : Value} {cs : List Value} {T : TypeId} {fr : Nat × Nat} {w : World} (h : σ.blk b = some (.cells (v :: cs).toArray T fr)) (hI : Inv σ L w) : w.cell? ⟨b, 0, none⟩ = some v := by
  obtain ⟨a, ha, hc⟩ := Rds.blk (L := L) h w hI
  cases ha
  simpa [Addr.add] using hc 0 _ rfl
theorem cell_bx {b : Nat} {v : Value} {cs : List Value} {T : TypeId} {w : World} (h : Has (Bx b (v :: cs) T) L) (hI : Inv σ L w) : w.cell? ⟨b, 0, none⟩ = some v := by
  obtain ⟨a, ha, hc⟩ := Rds.bx (σ := σ) h w hI
  cases ha
  simpa [Addr.add] using hc 0 _ rfl
theorem l_fzb {b : Nat} {cs : List Value} {T : TypeId} {L0 : List Res} (ho : Out (Bx b cs T) L L0) (h : ∀ σ', σ.le σ' → σ'.blk b = some (.cells cs.toArray T (0, 0)) → Wl P c ops l k σ' L0 ρ) : Wl P c ops l k σ L ρ := by
  intro w hI
  obtain ⟨σ', h1, h2, _, h4⟩ := (hI.out ho).freeze
  obtain ⟨o, h5, h6⟩ := h4 b rfl
  have h7 : o = .cells cs.toArray T (0, 0) := h6
  subst h7
  exact h σ' h1 h5 w h2
theorem t_fzb {b : Nat} {cs : List Value} {T : TypeId} {L0 : List Res} (ho : Out (Bx b cs T) L L0) (h : ∀ σ', σ.le σ' → σ'.blk b = some (.cells cs.toArray T (0, 0)) → Ws P c k σ' L0 ρ) : Ws P c k σ L ρ := by
  intro w hI
  obtain ⟨σ', h1, h2, _, h4⟩ := (hI.out ho).freeze
  obtain ⟨o, h5, h6⟩ := h4 b rfl
  have h7 : o = .cells cs.toArray T (0, 0) := h6
  subst h7
  exact h σ' h1 h5 w h2
end
end Go.Sp
