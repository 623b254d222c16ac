/-
  The engine, part 2: stable memory, owned blocks, the judgements over them.
-/
import Derived.Test.YtbijponhndknlaaDoorE1
set_option linter.unusedVariables false
set_option linter.unusedSimpArgs false
namespace Go.Sp
open Go.RowKit

/-! ### Memory -/
/-- What stays as it is: some blocks, the streams, the tape. -/
structure Stb where
  blk : Nat → Option Obj
  size : Nat
  os : Os
  output : Array (Nat × ByteArray)
  tape : Nat → Question → Nat
  drawn : Nat
structure Stb.le (s t : Stb) : Prop where
  blk : ∀ b o, s.blk b = some o → t.blk b = some o
  size : s.size ≤ t.size
  os : t.os = s.os
  output : t.output = s.output
  tape : t.tape = s.tape
  drawn : s.drawn ≤ t.drawn
theorem Stb.le.refl (s : Stb) : s.le s := ⟨fun _ _ h => h, Nat.le_refl _, rfl, rfl, rfl, Nat.le_refl _⟩
theorem Stb.le.trans {a b c : Stb} (h : a.le b) (k : b.le c) : a.le c :=
  ⟨fun x o hx => k.blk x o (h.blk x o hx), Nat.le_trans h.size k.size, k.os.trans h.os, k.output.trans h.output, k.tape.trans h.tape, Nat.le_trans h.drawn k.drawn⟩
def Stb.of (w : World) : Stb := ⟨fun b => w.heap[b]?, w.heap.size, w.os, w.output, w.tape, w.drawn⟩

/-- A thing that is owned: at most one block, and what it holds. -/
structure Res where
  at_ : Option Nat
  ok : Obj → Prop
  pr : Prop

structure Inv (σ : Stb) (L : List Res) (w : World) : Prop where
  agree : ∀ b o, σ.blk b = some o → w.heap[b]? = some o
  size : σ.size ≤ w.heap.size
  os : w.os = σ.os
  output : w.output = σ.output
  tape : w.tape = σ.tape
  drawn : σ.drawn ≤ w.drawn
  pr : ∀ r ∈ L, r.pr
  own : ∀ r ∈ L, ∀ b, r.at_ = some b → ∃ o, w.heap[b]? = some o ∧ r.ok o
  free : ∀ r ∈ L, ∀ b, r.at_ = some b → σ.blk b = none
  apart : L.Pairwise fun r s => ∀ b, r.at_ = some b → s.at_ ≠ some b

theorem Inv.of (w : World) : Inv (Stb.of w) [] w :=
  ⟨fun _ _ h => h, Nat.le_refl _, rfl, rfl, rfl, Nat.le_refl _, by simp, by simp, by simp, .nil⟩

theorem Inv.lt {σ : Stb} {L : List Res} {w : World} (h : Inv σ L w) {r : Res} (hr : r ∈ L) {b : Nat} (hb : r.at_ = some b) : b < w.heap.size := by
  obtain ⟨o, ho, _⟩ := h.own r hr b hb
  exact (Array.getElem?_eq_some_iff.1 ho).1
theorem Inv.blk_lt {σ : Stb} {L : List Res} {w : World} (h : Inv σ L w) {b : Nat} {o : Obj} (hb : σ.blk b = some o) : b < w.heap.size :=
  (Array.getElem?_eq_some_iff.1 (h.agree b o hb)).1

/-- Memory grows, or the one block of the head is written. -/
theorem Inv.chg {σ : Stb} {r r' : Res} {L : List Res} {w w' : World} (hI : Inv σ (r :: L) w)
    (hos : w'.os = w.os) (hout : w'.output = w.output) (htape : w'.tape = w.tape) (hsz : w.heap.size ≤ w'.heap.size)
    (hsame : ∀ b, b < w.heap.size → r.at_ ≠ some b → w'.heap[b]? = w.heap[b]?) (hpr : r'.pr)
    (hnew : ∀ b, r'.at_ = some b → (r.at_ = some b ∨ w.heap.size ≤ b) ∧ ∃ o, w'.heap[b]? = some o ∧ r'.ok o) (hdr : w.drawn ≤ w'.drawn) : Inv σ (r' :: L) w' := by
  have hL : ∀ s ∈ L, ∀ b, s.at_ = some b → b < w.heap.size ∧ r.at_ ≠ some b := fun s hs b hb =>
    ⟨hI.lt (List.mem_cons_of_mem _ hs) hb, fun e => (List.pairwise_cons.1 hI.apart).1 s hs b e hb⟩
  refine ⟨fun b o h => ?_, Nat.le_trans hI.size hsz, hos.trans hI.os, hout.trans hI.output, htape.trans hI.tape, Nat.le_trans hI.drawn hdr, ?_, ?_, ?_, ?_⟩
  · rw [hsame b (hI.blk_lt h) fun e => ?_]
    · exact hI.agree b o h
    · have := hI.free r (List.mem_cons_self ..) b e
      rw [h] at this; cases this
  · intro s hs
    rcases List.mem_cons.1 hs with rfl | hs
    · exact hpr
    · exact hI.pr s (List.mem_cons_of_mem _ hs)
  · intro s hs b hb
    rcases List.mem_cons.1 hs with rfl | hs
    · exact (hnew b hb).2
    · rw [hsame b (hL s hs b hb).1 (hL s hs b hb).2]
      exact hI.own s (List.mem_cons_of_mem _ hs) b hb
  · intro s hs b hb
    rcases List.mem_cons.1 hs with rfl | hs
    · rcases (hnew b hb).1 with h | h
      · exact hI.free r (List.mem_cons_self ..) b h
      · cases hq : σ.blk b with
        | none => rfl
        | some o => have := hI.blk_lt hq; omega
    · exact hI.free s (List.mem_cons_of_mem _ hs) b hb
  · refine List.pairwise_cons.2 ⟨fun s hs b hb hsb => ?_, (List.pairwise_cons.1 hI.apart).2⟩
    rcases (hnew b hb).1 with h | h
    · exact (hL s hs b hsb).2 h
    · have := (hL s hs b hsb).1; omega

/-- Nothing is owned at the head: the new thing lies in new memory, or nowhere. -/
theorem Inv.grow {σ : Stb} {r' : Res} {L : List Res} {w w' : World} (hI : Inv σ L w)
    (hos : w'.os = w.os) (hout : w'.output = w.output) (htape : w'.tape = w.tape) (hsz : w.heap.size ≤ w'.heap.size)
    (hsame : ∀ b, b < w.heap.size → w'.heap[b]? = w.heap[b]?) (hpr : r'.pr)
    (hnew : ∀ b, r'.at_ = some b → w.heap.size ≤ b ∧ ∃ o, w'.heap[b]? = some o ∧ r'.ok o) (hdr : w.drawn ≤ w'.drawn) : Inv σ (r' :: L) w' := by
  have h0 : Inv σ (⟨none, fun _ => True, True⟩ :: L) w :=
    ⟨hI.agree, hI.size, hI.os, hI.output, hI.tape, hI.drawn, fun s hs => by
      rcases List.mem_cons.1 hs with rfl | hs
      · trivial
      · exact hI.pr s hs, fun s hs b hb => by
      rcases List.mem_cons.1 hs with rfl | hs
      · cases hb
      · exact hI.own s hs b hb, fun s hs b hb => by
      rcases List.mem_cons.1 hs with rfl | hs
      · cases hb
      · exact hI.free s hs b hb, List.pairwise_cons.2 ⟨fun s hs b hb => by simp at hb, hI.apart⟩⟩
  exact h0.chg hos hout htape hsz (fun b hb _ => hsame b hb) hpr (fun b hb => ⟨.inr (hnew b hb).1, (hnew b hb).2⟩) hdr

theorem Inv.tail {σ : Stb} {r : Res} {L : List Res} {w : World} (h : Inv σ (r :: L) w) : Inv σ L w :=
  ⟨h.agree, h.size, h.os, h.output, h.tape, h.drawn, fun s hs => h.pr s (List.mem_cons_of_mem _ hs), fun s hs => h.own s (List.mem_cons_of_mem _ hs), fun s hs => h.free s (List.mem_cons_of_mem _ hs), (List.pairwise_cons.1 h.apart).2⟩

/-- Memory grows; nothing that was there has turned. -/
theorem Inv.ext {σ : Stb} {L : List Res} {w w' : World} (hI : Inv σ L w) (hb : Below w.heap.size w w') (hdr : w.drawn ≤ w'.drawn) : Inv σ L w' :=
  (hI.grow (r' := ⟨none, fun _ => True, True⟩) hb.os hb.output hb.tape hb.size (fun b h => hb.block b h) trivial (fun b h => by cases h) hdr).tail

theorem Inv.drew {σ : Stb} {L : List Res} {w : World} (hI : Inv σ L w) : Inv σ L w.drew := hI.ext (Below.refl _ _).drew (Nat.le_succ _)
theorem Inv.drewN {σ : Stb} {L : List Res} {w : World} (hI : Inv σ L w) (n : Nat) : Inv σ L (w.drewN n) :=
  hI.ext ⟨rfl, rfl, rfl, Nat.le_refl _, fun _ _ => rfl⟩ (Nat.le_add_right _ _)

theorem Inv.perm {σ : Stb} {L L' : List Res} {w : World} (hI : Inv σ L w) (hp : L.Perm L') : Inv σ L' w :=
  ⟨hI.agree, hI.size, hI.os, hI.output, hI.tape, hI.drawn, fun s hs => hI.pr s (hp.mem_iff.2 hs), fun s hs => hI.own s (hp.mem_iff.2 hs), fun s hs => hI.free s (hp.mem_iff.2 hs),
    (hp.pairwise_iff (fun {x y} h b hy hx => h b hx hy)).1 hI.apart⟩

theorem Inv.weaken {σ σ' : Stb} {L : List Res} {w : World} (hI : Inv σ' L w) (h : σ.le σ') : Inv σ L w :=
  ⟨fun b o hb => hI.agree b o (h.blk b o hb), Nat.le_trans h.size hI.size, hI.os.trans h.os, hI.output.trans h.output, hI.tape.trans h.tape, Nat.le_trans h.drawn hI.drawn, hI.pr, hI.own,
    (fun r hr b hb => by
      cases hq : σ.blk b with
      | none => rfl
      | some o => have := hI.free r hr b hb; rw [h.blk b o hq] at this; cases this), hI.apart⟩

/-- What is owned is given up: from here on it stays as it is. -/
theorem Inv.freeze {σ : Stb} {r : Res} {L : List Res} {w : World} (hI : Inv σ (r :: L) w) :
    ∃ σ', σ.le σ' ∧ Inv σ' L w ∧ r.pr ∧ ∀ b, r.at_ = some b → ∃ o, σ'.blk b = some o ∧ r.ok o := by
  cases hb : r.at_ with
  | none => exact ⟨σ, .refl σ, hI.tail, hI.pr r (List.mem_cons_self ..), fun b h => by cases h⟩
  | some b =>
    obtain ⟨o, ho, hok⟩ := hI.own r (List.mem_cons_self ..) b hb
    have hfree := hI.free r (List.mem_cons_self ..) b hb
    refine ⟨{ σ with blk := fun i => if i = b then some o else σ.blk i }, ⟨fun i u hi => ?_, Nat.le_refl _, rfl, rfl, rfl, Nat.le_refl _⟩, ?_, hI.pr r (List.mem_cons_self ..), fun i hi => ?_⟩
    · show (if i = b then some o else σ.blk i) = some u
      rw [if_neg fun e => by subst e; rw [hfree] at hi; cases hi]; exact hi
    · have ht := hI.tail
      refine ⟨fun i u hi => ?_, ht.size, ht.os, ht.output, ht.tape, ht.drawn, ht.pr, ht.own, fun s hs i hi => ?_, ht.apart⟩
      · simp only at hi
        split at hi
        · rename_i e; subst e; cases hi; exact ho
        · exact ht.agree i u hi
      · have hne : i ≠ b := fun e => (List.pairwise_cons.1 hI.apart).1 s hs b hb (e ▸ hi)
        show (if i = b then some o else σ.blk i) = none
        rw [if_neg hne]; exact ht.free s hs i hi
    · cases hi; exact ⟨o, by simp, hok⟩

/-! ### Where a thing stands in a list -/
inductive Has (r : Res) : List Res → Prop
  | z {L} : Has r (r :: L)
  | s {x L} : Has r L → Has r (x :: L)
inductive Upd (r r' : Res) : List Res → List Res → Prop
  | z {L} : Upd r r' (r :: L) (r' :: L)
  | s {x L L'} : Upd r r' L L' → Upd r r' (x :: L) (x :: L')
/-- A thing is taken out. -/
inductive Out (r : Res) : List Res → List Res → Prop
  | z {L} : Out r (r :: L) L
  | s {x L L'} : Out r L L' → Out r (x :: L) (x :: L')

theorem Has.mem {r : Res} {L : List Res} (h : Has r L) : r ∈ L := by
  induction h with
  | z => exact List.mem_cons_self ..
  | s _ ih => exact List.mem_cons_of_mem _ ih
theorem Upd.has {r r' : Res} {L L' : List Res} (h : Upd r r' L L') : Has r L := by
  induction h with
  | z => exact .z
  | s _ ih => exact .s ih
theorem Out.perm {r : Res} {L L' : List Res} (h : Out r L L') : L.Perm (r :: L') := by
  induction h with
  | z => exact .refl _
  | s _ ih => exact (List.Perm.cons _ ih).trans (.swap ..)
theorem Upd.perm {r r' : Res} {L L' : List Res} (h : Upd r r' L L') : ∃ M, L.Perm (r :: M) ∧ (r' :: M).Perm L' := by
  induction h with
  | z => exact ⟨_, .refl _, .refl _⟩
  | s _ ih => obtain ⟨M, h1, h2⟩ := ih; exact ⟨_ :: M, (List.Perm.cons _ h1).trans (.swap ..), (List.Perm.swap ..).trans (.cons _ h2)⟩

theorem Inv.out {σ : Stb} {r : Res} {L L' : List Res} {w : World} (hI : Inv σ L w) (h : Out r L L') : Inv σ (r :: L') w := hI.perm h.perm

theorem Inv.upd {σ : Stb} {r r' : Res} {L L' : List Res} {w w' : World} (hI : Inv σ L w) (hu : Upd r r' L L')
    (hos : w'.os = w.os) (hout : w'.output = w.output) (htape : w'.tape = w.tape) (hsz : w.heap.size ≤ w'.heap.size)
    (hsame : ∀ b, b < w.heap.size → r.at_ ≠ some b → w'.heap[b]? = w.heap[b]?) (hpr : r'.pr)
    (hnew : ∀ b, r'.at_ = some b → (r.at_ = some b ∨ w.heap.size ≤ b) ∧ ∃ o, w'.heap[b]? = some o ∧ r'.ok o) (hdr : w.drawn ≤ w'.drawn) : Inv σ L' w' := by
  obtain ⟨M, h1, h2⟩ := hu.perm
  exact ((hI.perm h1).chg hos hout htape hsz hsame hpr hnew hdr).perm h2

/-! ### The judgements -/
structure Cx where
  fn : Func
  R : Value → World → Prop
  n : Nat

def Ws (P : Program) (c : Cx) (k : List Kt) (σ : Stb) (L : List Res) (ρ : Env) : Prop := ∀ w, Inv σ L w → WpS P c.fn c.R c.n k ρ w
def Wl (P : Program) (c : Cx) (ops : List Oper) (l : List Oper) (k : List Kt) (σ : Stb) (L : List Res) (ρ : Env) : Prop := ∀ w, Inv σ L w → WpL P c.fn c.R c.n ops l k ρ w

section
variable {P : Program} {c : Cx} {k : List Kt} {σ : Stb} {L : List Res} {ρ : Env}

theorem t_seq {x y : Code} (h : Ws P c (.code x :: .code y :: k) σ L ρ) : Ws P c (.code (.seq x y) :: k) σ L ρ := fun w hI => s_seq (h w hI)
theorem t_block {id : Nat} {x : Code} (h : Ws P c (.code x :: .blk id :: k) σ L ρ) : Ws P c (.code (.block id x) :: k) σ L ρ := fun w hI => s_block (h w hI)
theorem t_blk {id : Nat} (h : Ws P c k σ L ρ) : Ws P c (.blk id :: k) σ L ρ := fun w hI => s_blk (h w hI)
theorem t_skip (h : Ws P c k σ L ρ) : Ws P c (.code .skip :: k) σ L ρ := fun w hI => s_skip (h w hI)
theorem t_label {l : Nat} (h : Ws P c k σ L ρ) : Ws P c (.code (.label l) :: k) σ L ρ := fun w hI => s_label (h w hI)
theorem t_exit {id : Nat} {k' : List Kt} (hk : exitK id k = some k') (h : Ws P c k' σ L ρ) : Ws P c (.code (.exit id) :: k) σ L ρ := fun w hI => s_exit hk (h w hI)
theorem t_if {x : Operand} {y z : Code} {b : Bool} (hc : ev ρ x = some (.bool b)) (ht : b = true → Ws P c (.code y :: k) σ L ρ) (hf : b = false → Ws P c (.code z :: k) σ L ρ) :
    Ws P c (.code (.cond x y z) :: k) σ L ρ := fun w hI => s_if hc (fun h => ht h w hI) (fun h => hf h w hI)
theorem t_ifd {x : Operand} {y z : Code} {p : Prop} {_ : Decidable p} (hc : ev ρ x = some (.bool (decide p))) (ht : p → Ws P c (.code y :: k) σ L ρ) (hf : ¬ p → Ws P c (.code z :: k) σ L ρ) :
    Ws P c (.code (.cond x y z) :: k) σ L ρ := fun w hI => s_ifd hc (fun h => ht h w hI) (fun h => hf h w hI)
theorem t_ift {x : Operand} {y z : Code} (hc : ev ρ x = some (.bool true)) (ht : Ws P c (.code y :: k) σ L ρ) : Ws P c (.code (.cond x y z) :: k) σ L ρ := fun w hI => s_ift hc (ht w hI)
theorem t_iff {x : Operand} {y z : Code} (hc : ev ρ x = some (.bool false)) (hf : Ws P c (.code z :: k) σ L ρ) : Ws P c (.code (.cond x y z) :: k) σ L ρ := fun w hI => s_iff hc (hf w hI)
theorem t_sub {ρ' : Env} (hs : Sub ρ' ρ) (h : Ws P c k σ L ρ') : Ws P c k σ L ρ := fun w hI => s_sub hs (h w hI)
theorem t_region {id : Nat} {l : List Oper} (h : Wl P c l l k σ L ρ) : Ws P c (.code (.region id l.toArray false) :: k) σ L ρ := fun w hI => s_region (h w hI)
theorem l_nil {ops : List Oper} (h : Ws P c k σ L ρ) : Wl P c ops [] k σ L ρ := fun w hI => r_nil (h w hI)
theorem t_ret1 {t : Nat} {v : Value} (hr : c.fn.results = #[.tmp t]) (hv : get ρ t = some v) (hR : ∀ w, Inv σ L w → c.R v w) : Ws P c (.code .ret :: k) σ L ρ := fun w hI => s_ret1 hr hv (hR w hI)
theorem t_ret0 (hr : c.fn.results = #[]) (hR : ∀ w, Inv σ L w → c.R (.tuple #[]) w) : Ws P c (.code .ret :: k) σ L ρ := fun w hI => s_ret0 hr (hR w hI)
theorem t_end0 (hr : c.fn.results = #[]) (hR : ∀ w, Inv σ L w → c.R (.tuple #[]) w) : Ws P c [] σ L ρ := fun w hI => s_end0 hr (hR w hI)
theorem t_ret2 {t u : Nat} {v v' : Value} (hr : c.fn.results = #[.tmp t, .tmp u]) (hv : get ρ t = some v) (hv' : get ρ u = some v') (hR : ∀ w, Inv σ L w → c.R (.tuple #[v, v']) w) :
    Ws P c (.code .ret :: k) σ L ρ := fun w hI => s_ret2 hr hv hv' (hR w hI)
theorem t_ret3 {t u s : Nat} {v v' v'' : Value} (hr : c.fn.results = #[.tmp t, .tmp u, .tmp s]) (hv : get ρ t = some v) (hv' : get ρ u = some v') (hv'' : get ρ s = some v'')
    (hR : ∀ w, Inv σ L w → c.R (.tuple #[v, v', v'']) w) : Ws P c (.code .ret :: k) σ L ρ := fun w hI => s_ret3 hr hv hv' hv'' (hR w hI)

/-- A family of states: how a loop's head, or a place where ways meet, is told. -/
structure Fam (ι : Type) where
  E : ι → Env
  S : ι → Stb
  M : ι → List Res
  Φ : ι → Prop
def Fam.inv {ι : Type} (f : Fam ι) (n : Nat) : Kt := .inv (Back n f.E fun j w => f.Φ j ∧ Inv (f.S j) (f.M j) w)
def Fam.round {ι : Type} (f : Fam ι) (n : Nat) (μ : ι → Nat) (i : ι) : Kt := .inv (Back n f.E fun j w => (f.Φ j ∧ Inv (f.S j) (f.M j) w) ∧ μ j < μ i)

theorem t_back {ι : Type} {f : Fam ι} (j : ι) (hs : Sub (f.E j) ρ) (hΦ : f.Φ j) (hI : ∀ w, Inv σ L w → Inv (f.S j) (f.M j) w) : Ws P c (f.inv c.n :: k) σ L ρ :=
  fun w h => s_back j hs ⟨hΦ, hI w h⟩
theorem t_round {ι : Type} {f : Fam ι} {μ : ι → Nat} {i : ι} (j : ι) (hs : Sub (f.E j) ρ) (hΦ : f.Φ j) (hμ : μ j < μ i) (hI : ∀ w, Inv σ L w → Inv (f.S j) (f.M j) w) : Ws P c (f.round c.n μ i :: k) σ L ρ :=
  fun w h => s_back j hs ⟨⟨hΦ, hI w h⟩, hμ⟩
theorem t_cut {ι : Type} (f : Fam ι) {x : Code} (h : Ws P c (.code x :: f.inv c.n :: k) σ L ρ) (hk : ∀ j, f.Φ j → Ws P c k (f.S j) (f.M j) (f.E j)) : Ws P c (.code x :: k) σ L ρ :=
  fun w hI => s_cut f.E _ (h w hI) fun j w' ⟨hΦ, hI'⟩ => hk j hΦ w' hI'
theorem t_loop {ι : Type} (f : Fam ι) (μ : ι → Nat) {body : Code} (i₀ : ι) (hs : Sub (f.E i₀) ρ) (hΦ : f.Φ i₀) (hI₀ : ∀ w, Inv σ L w → Inv (f.S i₀) (f.M i₀) w)
    (h : ∀ i, f.Φ i → Ws P c (.code body :: f.round c.n μ i :: k) (f.S i) (f.M i) (f.E i)) : Ws P c (.code (.loop body) :: k) σ L ρ :=
  fun w hI => s_loop f.E (fun j w' => f.Φ j ∧ Inv (f.S j) (f.M j) w') μ i₀ hs ⟨hΦ, hI₀ w hI⟩ fun i w' ⟨hΦ', hI'⟩ => h i hΦ' w' hI'

/-- What is owned is given up, forgotten, or put in another order. -/
theorem t_inv {σ' : Stb} {L' : List Res} (hI : ∀ w, Inv σ L w → Inv σ' L' w) (h : Ws P c k σ' L' ρ) : Ws P c k σ L ρ := fun w hw => h w (hI w hw)
theorem l_inv {ops l : List Oper} {σ' : Stb} {L' : List Res} (hI : ∀ w, Inv σ L w → Inv σ' L' w) (h : Wl P c ops l k σ' L' ρ) : Wl P c ops l k σ L ρ := fun w hw => h w (hI w hw)
theorem t_out {r : Res} {L' : List Res} (ho : Out r L L') (h : Ws P c k σ L' ρ) : Ws P c k σ L ρ := fun w hw => h w (hw.out ho).tail
theorem l_out {ops l : List Oper} {r : Res} {L' : List Res} (ho : Out r L L') (h : Wl P c ops l k σ L' ρ) : Wl P c ops l k σ L ρ := fun w hw => h w (hw.out ho).tail
end

/-! ### Contracts -/
/-- Nothing owned goes in; what comes back is plain, or lies in stable memory. -/
def Sp0 (P : Program) (f : Nat) (args : List Value) (σ : Stb) (Φ : Value → Stb → Prop) : Prop :=
  ∀ F w, Inv σ F w → Fn P f args w fun v w' => ∃ σ', σ.le σ' ∧ Φ v σ' ∧ Inv σ' F w'
/-- Nothing owned goes in, one thing comes out. -/
def Sp1 (P : Program) (f : Nat) (args : List Value) (σ : Stb) (Φ : Value → Stb → Res → Prop) : Prop :=
  ∀ F w, Inv σ F w → Fn P f args w fun v w' => ∃ σ' r, σ.le σ' ∧ Φ v σ' r ∧ Inv σ' (r :: F) w'
/-- One owned thing goes in, one comes out. -/
def Sq1 (P : Program) (f : Nat) (args : List Value) (σ : Stb) (r₀ : Res) (Φ : Value → Stb → Res → Prop) : Prop :=
  ∀ F w, Inv σ (r₀ :: F) w → Fn P f args w fun v w' => ∃ σ' r, σ.le σ' ∧ Φ v σ' r ∧ Inv σ' (r :: F) w'
/-- One owned thing goes in and comes out, another one comes out ahead of it. -/
def Sq2 (P : Program) (f : Nat) (args : List Value) (σ : Stb) (r₀ : Res) (Φ : Value → Stb → Res → Res → Prop) : Prop :=
  ∀ F w, Inv σ (r₀ :: F) w → Fn P f args w fun v w' => ∃ σ' s r, σ.le σ' ∧ Φ v σ' s r ∧ Inv σ' (s :: r :: F) w'

theorem sp0 {P : Program} {f : Nat} {fn : Func} {c : Code} {args : List Value} {σ : Stb} {Φ : Value → Stb → Prop}
    (hf : P.funcs[f]? = some fn) (hb : fn.body = some c) (hn : (fn.name == "runtime.NumGoroutine") = false) (hle : Nat.ble args.length fn.ntmps = true)
    (h : ∀ F, Ws P ⟨fn, fun v w' => ∃ σ', σ.le σ' ∧ Φ v σ' ∧ Inv σ' F w', fn.ntmps⟩ [.code c] σ F (env0 0 args)) : Sp0 P f args σ Φ :=
  fun F w hI => fn_intro hf hb hn hle (h F w hI)
theorem sp1 {P : Program} {f : Nat} {fn : Func} {c : Code} {args : List Value} {σ : Stb} {Φ : Value → Stb → Res → Prop}
    (hf : P.funcs[f]? = some fn) (hb : fn.body = some c) (hn : (fn.name == "runtime.NumGoroutine") = false) (hle : Nat.ble args.length fn.ntmps = true)
    (h : ∀ F, Ws P ⟨fn, fun v w' => ∃ σ' r, σ.le σ' ∧ Φ v σ' r ∧ Inv σ' (r :: F) w', fn.ntmps⟩ [.code c] σ F (env0 0 args)) : Sp1 P f args σ Φ :=
  fun F w hI => fn_intro hf hb hn hle (h F w hI)
theorem sq1 {P : Program} {f : Nat} {fn : Func} {c : Code} {args : List Value} {σ : Stb} {r₀ : Res} {Φ : Value → Stb → Res → Prop}
    (hf : P.funcs[f]? = some fn) (hb : fn.body = some c) (hn : (fn.name == "runtime.NumGoroutine") = false) (hle : Nat.ble args.length fn.ntmps = true)
    (h : ∀ F, Ws P ⟨fn, fun v w' => ∃ σ' r, σ.le σ' ∧ Φ v σ' r ∧ Inv σ' (r :: F) w', fn.ntmps⟩ [.code c] σ (r₀ :: F) (env0 0 args)) : Sq1 P f args σ r₀ Φ :=
  fun F w hI => fn_intro hf hb hn hle (h F w hI)
theorem sq2 {P : Program} {f : Nat} {fn : Func} {c : Code} {args : List Value} {σ : Stb} {r₀ : Res} {Φ : Value → Stb → Res → Res → Prop}
    (hf : P.funcs[f]? = some fn) (hb : fn.body = some c) (hn : (fn.name == "runtime.NumGoroutine") = false) (hle : Nat.ble args.length fn.ntmps = true)
    (h : ∀ F, Ws P ⟨fn, fun v w' => ∃ σ' s r, σ.le σ' ∧ Φ v σ' s r ∧ Inv σ' (s :: r :: F) w', fn.ntmps⟩ [.code c] σ (r₀ :: F) (env0 0 args)) : Sq2 P f args σ r₀ Φ :=
  fun F w hI => fn_intro hf hb hn hle (h F w hI)

theorem Sp0.mono {P : Program} {f : Nat} {args : List Value} {σ : Stb} {Φ Ψ : Value → Stb → Prop} (h : Sp0 P f args σ Φ) (hi : ∀ v σ', σ.le σ' → Φ v σ' → Ψ v σ') : Sp0 P f args σ Ψ :=
  fun F w hI => (h F w hI).mono fun v w' ⟨σ', h1, h2, h3⟩ => ⟨σ', h1, hi v σ' h1 h2, h3⟩
theorem Sp1.mono {P : Program} {f : Nat} {args : List Value} {σ : Stb} {Φ Ψ : Value → Stb → Res → Prop} (h : Sp1 P f args σ Φ) (hi : ∀ v σ' r, σ.le σ' → Φ v σ' r → Ψ v σ' r) : Sp1 P f args σ Ψ :=
  fun F w hI => (h F w hI).mono fun v w' ⟨σ', r, h1, h2, h3⟩ => ⟨σ', r, h1, hi v σ' r h1 h2, h3⟩
end Go.Sp
