/-
  The engine, part 11: results that are held in cells.
-/
import Derived.Test.YtbijponhndknlaaDoorE10
set_option linter.unusedVariables false
set_option linter.unusedSimpArgs false
namespace Go.Sp
open Go.RowKit
inductive Rv (P : Program) (σ : Stb) (L : List Res) (ρ : Env) : List ResultVar → List Value → Prop
  | nil : Rv P σ L ρ [] []
  | tmp {t : Nat} {v : Value} {rs : List ResultVar} {vs : List Value} : get ρ t = some v → Rv P σ L ρ rs vs → Rv P σ L ρ (.tmp t :: rs) (v :: vs)
  | c1 {t T sz : Nat} {p v : Value} {r : List Value} {rs : List ResultVar} {vs : List Value} [ht : TI P T false sz] : get ρ t = some p → Rds σ L p (v :: r) → Rv P σ L ρ rs vs → Rv P σ L ρ (.cell t T :: rs) (v :: vs)
  | cn {t T sz : Nat} {p : Value} {r xs : List Value} {rs : List ResultVar} {vs : List Value} [ht : TI P T true sz] : get ρ t = some p → Rds σ L p r → r.take sz = xs → xs.length = sz → Rv P σ L ρ rs vs → Rv P σ L ρ (.cell t T :: rs) (.agg xs.toArray :: vs)
def resF (tmps : Array Value) : ResultVar → Sem Value
  | .tmp t => pure (tmps.getD t undef)
  | .cell a t => do loadVar t (← asAddr (tmps.getD a undef))
theorem Rv.run {P : Program} {σ : Stb} {L : List Res} {ρ : Env} {rs : List ResultVar} {vs : List Value} (h : Rv P σ L ρ rs vs) {n : Nat} {a : Act} (ha : Fits n ρ a) {w : World} (hI : Inv σ L w) : (rs.mapM (resF a.tmps)).run P w = .ok vs w := by
  induction h with
  | nil => rfl
  | tmp h1 _ ih =>
    have e := ha.at_ _ _ h1
    simp only [List.mapM_cons, Sem.run_bind, resF, Sem.run_pure, Result.andThen_ok, ih, Array.getD_eq_getD_getElem?, e, Option.getD_some]
  | c1 h1 h2 _ ih =>
    rename_i ht _
    have e := ha.at_ _ _ h1
    obtain ⟨A, rfl, hc⟩ := h2 w hI
    obtain ⟨d, i, h3, h4, h5, h6⟩ := ht.parts
    have h0 := by simpa [Addr.add] using hc 0 _ rfl
    simp only [List.mapM_cons, Sem.run_bind, resF, Sem.run_pure, Result.andThen_ok, Array.getD_eq_getD_getElem?, e, Option.getD_some, asAddr, loadVar, run_isAgg h3, h6, if_false, Bool.false_eq_true, run_load, h0, ih]
  | cn h1 h2 hxs hl _ ih =>
    rename_i ht _
    have e := ha.at_ _ _ h1
    obtain ⟨d, i, h3, h4, h5, h6⟩ := ht.parts
    rename_i sz _ _ _ _ _ _ _
    obtain ⟨A, rfl, hc⟩ := (h2.take i.size) w hI
    rw [h5, hxs] at hc
    have h7 := run_loadCells_list (P := P) w A _ hc
    rw [hl] at h7
    simp only [List.mapM_cons, Sem.run_bind, resF, Sem.run_pure, Result.andThen_ok, Array.getD_eq_getD_getElem?, e, Option.getD_some, asAddr, loadVar, run_isAgg h3, h6, if_true, run_sizeOf h4, h5, h7, ih]
def tup : List Value → Value
  | [v] => v
  | vs => .tuple vs.toArray
theorem t_ret {P : Program} {c : Cx} {k : List Kt} {σ : Stb} {L : List Res} {ρ : Env} {rs : List ResultVar} {vs : List Value} (hr : c.fn.results.toList = rs) (h : Rv P σ L ρ rs vs) (hR : ∀ w, Inv σ L w → c.R (tup vs) w) : Ws P c (.code .ret :: k) σ L ρ := by
  intro w hI a ha
  refine wp_ret ?_
  rw [U_ret]
  refine ⟨ha.defers, _, ?_, hR w hI⟩
  have h1 := h.run ha hI
  have h2 : c.fn.results = rs.toArray := by rw [← hr]
  have h3 : (results c.fn a.tmps) = (do let vs ← c.fn.results.mapM (resF a.tmps); pure (if h : vs.size = 1 then vs[0] else .tuple vs)) := rfl
  rw [h3, h2, List.mapM_toArray]
  simp only [Sem.run_bind, Sem.run_map, h1, Result.andThen_ok, Sem.run_pure]
  congr 1
  match vs with
  | [] => rfl
  | [v] => rfl
  | v :: u :: r => simp [tup]
end Go.Sp
