/-
  The engine, part 12: one element behind a row.
-/
import Derived.Test.YtbijponhndknlaaDoorE11
set_option linter.unusedVariables false
set_option linter.unusedSimpArgs false
namespace Go.Sp
open Go.RowKit
abbrev es (s : List UInt8) : List Value := [st s]
theorem l_app1 {P : Program} {c : Cx} {k : List Kt} {σ : Stb} {L : List Res} {ρ : Env} {ops l : List Oper} {α : Type} {d : Nat} {s x : Operand} {t tx ty : TypeId} {p : String} {es : Array Edge} {g : Option (Nat × Bool)} {e sz bytes e1 s1 b1 : Nat} {enc : α → List Value} {z sv : Value} {xs : List α} (y : α) {L0 : List Res} {b cc : Nat} {cs : List Value} {E : TypeId} [hs : SI P t e sz bytes] [hsx : SI P tx e1 s1 b1] [hz : ZI P e z]
    (hg : gd ops ρ g = some true) (hd : Nat.blt d c.n = true) (hsv : ev ρ s = some sv) (hx : ev ρ x = some (.slice (some ⟨b, 0, none⟩) 1 cc)) (ho : Out (own sz enc e sv xs) L L0) (hb : Has (Bx b cs E) L) (hcs : cs = enc y) (hys : (enc y).length = sz)
    (hzs : (cl z).length = sz) (h1 : cs.all (·.oneCell') = true) (hb1 : xs.length + 1 ≤ 9223372036854775807) (hb2 : (xs.length + 1) * bytes ≤ 140737488355328)
    (h : ∀ A cc, Wl P c ops l k σ (own sz enc e (.slice A (xs.length + 1) cc) (xs ++ [y]) :: L0) ((d, .slice A (xs.length + 1) cc) :: ρ)) :
    Wl P c ops (⟨some d, .call ⟨.builtin .append, #[s, x], #[t, tx]⟩, ty, p, es, g⟩ :: l) k σ L ρ :=
  l_app (xs := xs) [y] hg hd hsv hx ho (Src.bx hb (by rw [hcs, hys]; omega)) (by simp [hcs]) rfl hzs (fun u hu => by simp at hu; rw [hu]; exact hys) h1 hb1 hb2 h
theorem p_ixs {P : Program} {σ : Stb} {L : List Res} {ρ : Env} {t u e sz b1 : Nat} {x y : Operand} {a : Addr} {n cc : Nat} {κ : IntKind} {m : Int} [hs : SI P t e sz b1] (j : Nat) (hx : ev ρ x = some (.slice (some a) n cc)) (hy : ev ρ y = some (.int κ m)) (hm : m = (j : Int)) (hj : j < n) :
    Pr P σ L ρ (.indexAddr t x y) u (ixp (.slice (some a) n cc) sz j) := by
  intro n' a w ha hI d pp es g
  obtain ⟨i, h1, h2, h3, h4⟩ := hs.parts
  subst hm
  have hc : 0 ≤ (j : Int) ∧ (j : Int) < (n : Int) := ⟨by omega, by omega⟩
  simp [execOp, ha.ev hx, ha.ev hy, Instr.indexAt, asIntOf, run_underlying h1, hc, run_sizeOf h2, h3, ixp]
  intro hh; omega
theorem t_some {P : Program} {c : Cx} {k : List Kt} {σ : Stb} {L : List Res} {ρ : Env} {α : Type} {sz : Nat} {enc : α → List Value} {E : TypeId} {A : Option Addr} {n cc : Nat} {xs : List α} (hh : Has (own sz enc E (.slice A n cc) xs) L) (hx : xs ≠ []) (h : ∀ g, A = some ⟨g, 0, none⟩ → Ws P c k σ L ρ) : Ws P c k σ L ρ := by
  intro w hI
  obtain ⟨hsz, ⟨h1, h2⟩ | ⟨g, cap, cur, fr, h1, _⟩⟩ := own.cells hh hI
  · exact absurd h2 hx
  · cases h1; exact h g rfl w hI
theorem l_sub {P : Program} {c : Cx} {k : List Kt} {σ : Stb} {L : List Res} {ρ ρ' : Env} {ops l : List Oper} (hs : Sub ρ' ρ) (h : Wl P c ops l k σ L ρ') : Wl P c ops l k σ L ρ := h.sub hs
theorem p_addb8 {P : Program} {σ : Stb} {L : List Res} {ρ : Env} {t t' u : TypeId} {x y : Operand} {m : Int} {b : UInt8} (hx : ev ρ x = some (u8 b)) (hy : ev ρ y = some (.int .u8 m)) (h : 0 ≤ m ∧ (b.toNat : Int) + m ≤ 255) : Pr P σ L ρ (.binOp .add t x y t') u (u8 (UInt8.ofNat (b.toNat + m.toNat))) := by
  have h1 := p_addb (P := P) (σ := σ) (L := L) (t := t) (t' := t') (u := u) hx hy (by omega)
  have e : ((UInt8.ofNat (b.toNat + m.toNat)).toNat : Int) = b.toNat + m := by rw [UInt8.toNat_ofNat']; omega
  rw [u8, e]; exact h1
end Go.Sp
