/- Bytes (numbers, sums), and the document's: walks. -/
import Derived.Test.YtbijponhndknlaaDoorTy
import Derived.Test.YtbijponhndknlaaDoorE18
import Derived.Test.YtbijponhndknlaaDoorX11
set_option linter.unusedSimpArgs false
set_option linter.unusedVariables false
set_option maxRecDepth 20000
namespace Go.Proofs.YtbijponhndknlaaDoor
open Go.Sp
attribute [local irreducible] Go.Sp.Pr Go.Sp.Ws Go.Sp.Wl Go.Sp.Wq Go.Sp.Rds Go.Sp.Src
theorem nfits (σ : Stb) (n a b : Int) : SpV Tryd.prog 44 [i64 n, i64 a, i64 b] σ (.bool (decide (a ≤ n ∧ n ≤ b))) := by
  refine spv Tryd.func44 rfl (by kernel_rfl) rfl fun F => ?_
  refine t_seq ?_
  refine t_region ?_
  refine l_p rfl rfl (p_assign rfl) ?_
  refine l_nil ?_
  refine t_seq ?_
  refine t_region ?_
  refine l_p rfl rfl (p_move rfl) ?_
  refine l_p rfl rfl (p_move rfl) ?_
  refine l_p rfl rfl (p_ge rfl rfl) ?_
  refine l_p rfl rfl (p_move rfl) ?_
  refine l_split 10 rfl (fun h => ?_) (fun h => ?_)
  all_goals
    first | (refine l_p rfl rfl (p_move rfl) ?_; refine l_p rfl rfl (p_move rfl) ?_; refine l_p rfl rfl (p_le rfl rfl) ?_; refine l_p rfl rfl (p_pickt rfl rfl) ?_; refine l_p rfl rfl (p_assign rfl) ?_; refine l_nil ?_) | (refine l_skip rfl rfl ?_; refine l_skip rfl rfl ?_; refine l_skip rfl rfl ?_; refine l_p rfl rfl (p_pickf rfl rfl) ?_; refine l_p rfl rfl (p_assign rfl) ?_; refine l_nil ?_)
    exact t_ret1 rfl rfl fun w hI => ⟨by congr 1; rw [Bool.eq_iff_iff]; simp; try omega, hI⟩
theorem bclone {σ : Stb} {A : Option Addr} {n0 cc : Nat} {b : List UInt8} (hS : Sl σ 1 eu8 (.slice A n0 cc) b) (hl : b.length ≤ 100000000000000) : Sp1 Tryd.prog 31 [.slice A n0 cc] σ fun v σ' r => σ = σ' ∧ ∃ A' c', v = .slice A' b.length c' ∧ r = own 1 eu8 5 (.slice A' b.length c') b := by
  have hn := hS.len
  subst hn
  refine sp1 Tryd.func31 rfl (by kernel_rfl) rfl fun F => ?_
  refine t_seq ?_
  refine t_region ?_
  refine l_p rfl rfl (p_assign rfl) ?_
  refine l_nil ?_
  refine t_seq ?_
  refine t_seq ?_
  refine t_region ?_
  refine l_p rfl rfl (p_move rfl) ?_
  refine l_p rfl rfl (p_slnil (by exact rfl) (by exact rfl)) ?_
  refine l_nil ?_
  refine t_if rfl (fun h => ?_) (fun h => ?_)
  · refine t_seq ?_
    refine t_region ?_
    refine l_p rfl rfl (p_assign rfl) ?_
    refine l_nil ?_
    have hA : A = none := by simpa using h
    obtain ⟨h1, h2⟩ := hS.of_none hA
    subst h1
    exact t_ret1 rfl rfl fun w hI => ⟨σ, _, .refl σ, ⟨rfl, none, 0, rfl, rfl⟩, hI.own0 ..⟩
  · refine t_skip ?_
    refine t_seq ?_
    refine t_region ?_
    refine l_bsl (by exact rfl) (by exact rfl) (by exact rfl) (by exact rfl) (by exact rfl) (by exact rfl) (by exact rfl) ?_; intro _
    refine l_p rfl rfl (p_move rfl) ?_
    refine l_ownb 1 eu8 ([] : List UInt8) 0 (by with_reducible first | exact .z | exact .s .z | exact .s (.s .z) | exact .s (.s (.s .z)) | exact .s (.s (.s (.s .z))) | exact .s (.s (.s (.s (.s .z))))) rfl (by exact rfl) (by simp) (by simp) ?_
    refine l_appu (xs := ([] : List UInt8)) b rfl rfl rfl rfl .z (Src.slu hS) rfl (by simp; omega) fun A' c' => ?_
    refine l_p rfl rfl (p_assign rfl) ?_
    refine l_nil ?_
    simp only [List.length_nil, Nat.zero_add, List.nil_append]
    exact t_ret1 rfl rfl fun w hI => ⟨σ, _, .refl σ, ⟨rfl, A', c', rfl, rfl⟩, hI⟩
theorem pow_i (n m : Nat) {x : Int} (h : x = 8 * (m : Int)) : (n : Int) / 2 ^ x.toNat = ((n / 256 ^ m : Nat) : Int) := by
  have e1 : x.toNat = 8 * m := by omega
  rw [e1, Int.natCast_ediv]
  congr 1
  have h2 := Nat.pow_mul 2 8 m
  rw [show (2 : Int) = ((2 : Nat) : Int) from rfl, ← Int.natCast_pow, h2]
theorem nput1 {σ : Stb} {A : Option Addr} {n0 cc : Nat} {b : List UInt8} (n k : Nat) (hk : 1 ≤ k ∧ k ≤ 8) (hn : n < 18446744073709551616) (hS : Sl σ 1 eu8 (.slice A n0 cc) b) (hl : b.length ≤ 10000000000000) :
    Sp1 Tryd.prog 36 [.slice A n0 cc, .int .u64 n, i64 k] σ fun v σ' r => σ = σ' ∧ ∃ A c, v = .slice A (b ++ be n k).length c ∧ r = own 1 eu8 5 (.slice A (b ++ be n k).length c) (b ++ be n k) := by
  refine sp1 Tryd.func36 rfl (by kernel_rfl) rfl fun F => ?_
  refine t_seq ?_
  refine t_region ?_
  refine l_p rfl rfl (p_assign rfl) ?_
  refine l_nil ?_
  refine t_seq ?_
  refine t_region ?_
  refine l_p rfl rfl (p_move rfl) ?_
  refine l_call1 rfl rfl rfl (bclone hS (by omega)) ?_
  rintro _ _ _ - ⟨rfl, A1, c1, rfl, rfl⟩
  refine l_p rfl rfl (p_assign rfl) ?_
  refine l_nil ?_
  refine t_seq ?_
  refine t_seq ?_
  refine t_region ?_
  refine l_p rfl rfl (p_move rfl) ?_
  refine l_p rfl rfl (p_max rfl rfl) ?_
  refine l_p rfl rfl (p_min rfl rfl) ?_
  refine l_p rfl rfl (p_sub rfl rfl (by omega)) ?_
  refine l_p rfl rfl (p_assign rfl) ?_
  refine l_nil ?_
  refine t_block ?_
  have hk1 : min (max (k : Int) 0) 8 - 1 = (k : Int) - 1 := by omega
  refine t_loop (ι := Nat × List UInt8 × Option Addr × Nat × List Res) { E := fun i => [(1, .int .u64 n), (8, i64 ((i.1 : Int) - 1)), (7, .slice i.2.2.1 i.2.1.length i.2.2.2.1)], S := fun _ => σ, M := fun i => own 1 eu8 5 (.slice i.2.2.1 i.2.1.length i.2.2.2.1) i.2.1 :: (i.2.2.2.2 ++ F), Φ := fun i => i.1 ≤ k ∧ i.2.1 ++ be n i.1 = b ++ be n k } (fun i => i.1) (k, b, A1, c1, [])
    (by exact ⟨rfl, gi rfl hk1, rfl, trivial⟩) ⟨Nat.le_refl _, rfl⟩ (fun w hI => hI) ?_
  rintro ⟨j, out, A2, c2, R⟩ ⟨h1, h2⟩
  dsimp only at h1 h2 ⊢
  have hlen := congrArg List.length h2
  simp only [List.length_append, be_len] at hlen
  refine t_seq ?_
  refine t_seq ?_
  refine t_region ?_
  refine l_p rfl rfl (p_move rfl) ?_
  refine l_p rfl rfl (p_ge rfl rfl) ?_
  refine l_nil ?_
  refine t_ifd rfl (fun h => ?_) (fun h => ?_)
  · obtain ⟨m, rfl⟩ : ∃ m, j = m + 1 := ⟨j - 1, by omega⟩
    have hstep : (out ++ [UInt8.ofNat (n / 256 ^ m)]) ++ be n m = b ++ be n k := by rw [← h2, be]; simp
    have hv : n / 2 ^ (8 * (((m + 1 : Nat) : Int) - 1)).toNat = n / 256 ^ m := by rw [show (8 * (((m + 1 : Nat) : Int) - 1)).toNat = 8 * m by omega, Nat.pow_mul]
    refine t_skip ?_
    refine t_seq ?_
    refine t_block ?_
    refine t_region ?_
    refine l_p rfl rfl (p_move rfl) ?_
    refine l_p rfl rfl (p_move rfl) ?_
    refine l_p rfl rfl (p_move rfl) ?_
    refine l_p rfl rfl (p_mul rfl rfl (by omega)) ?_
    refine l_p rfl rfl (p_shr64 rfl rfl (by omega)) ?_
    refine l_p rfl rfl (p_convb (by exact rfl)) ?_
    refine l_bsl (by exact rfl) (by exact rfl) (by exact rfl) (by exact rfl) (by exact rfl) (by exact rfl) (by exact rfl) ?_; intro _
    rw [hv]
    refine l_app1 (enc := eu8) (UInt8.ofNat (n / 256 ^ m)) rfl rfl rfl rfl (.s .z) .z (by exact rfl) rfl (by exact rfl) (by exact rfl) (by omega) (by omega) fun A' c' => ?_
    refine l_p rfl rfl (p_assign rfl) ?_
    refine l_nil ?_
    refine t_blk ?_
    refine t_region ?_
    refine l_p rfl rfl (p_move rfl) ?_
    refine l_p rfl rfl (p_sub rfl rfl (by omega)) ?_
    refine l_p rfl rfl (p_assign rfl) ?_
    refine l_nil ?_
    exact t_round (m, out ++ [UInt8.ofNat (n / 256 ^ m)], A', c', _ :: R) ⟨rfl, gi rfl (by omega), gs rfl (by simp), trivial⟩ ⟨by omega, hstep⟩ (by show m < m + 1; omega) (fun w hI => hI.oc (by simp) rfl)
  · have : j = 0 := by omega
    subst this
    simp only [be, List.append_nil] at h2
    subst h2
    refine t_exit rfl ?_
    refine t_seq ?_
    refine t_region ?_
    refine l_p rfl rfl (p_move rfl) ?_
    refine l_p rfl rfl (p_assign rfl) ?_
    refine l_nil ?_
    exact t_ret1 rfl rfl fun w hI => ⟨σ, _, .refl σ, ⟨rfl, _, _, rfl, rfl⟩, hI.keep1⟩
theorem nput {σ : Stb} {A : Option Addr} {n0 cc : Nat} {b : List UInt8} (n k : Nat) (hk : 1 ≤ k ∧ k ≤ 8) (hn : n < 18446744073709551616) (hS : Sl σ 1 eu8 (.slice A n0 cc) b) (hl : b.length ≤ 10000000000000) :
    Sp0 Tryd.prog 36 [.slice A n0 cc, .int .u64 n, i64 k] σ fun v σ' => Sl σ' 1 eu8 v (b ++ be n k) := (nput1 n k hk hn hS hl).fz
theorem or_step (n : Nat) (x : UInt8) (h : n < 72057594037927936) : (((((n : Int) * 2 ^ (8 : Int).toNat % 18446744073709551616).toNat ||| ((x.toNat : Nat) : Int).toNat : Nat)) : Int) = ((n * 256 + x.toNat : Nat) : Int) := by
  have hx := x.toNat_lt
  have e1 : ((n : Int) * 2 ^ (8 : Int).toNat % 18446744073709551616).toNat = 2 ^ 8 * n := by
    have e : (2 : Int) ^ (8 : Int).toNat = 256 := rfl
    rw [e]; omega
  rw [e1, Int.toNat_natCast, ← Nat.two_pow_add_eq_or_of_lt (by omega)]
  congr 1; omega
def getV (b : List UInt8) (i k : Nat) : Value := if i + k ≤ b.length then .tuple #[.int .u64 (vbe ((b.take (i + k)).drop i)), .bool true] else .tuple #[.int .u64 0, .bool false]
theorem nget {σ : Stb} {A : Option Addr} {n0 cc : Nat} {b : List UInt8} (i k : Nat) (hk : k ≤ 8) (hi : i ≤ 1000000000000) (hS : Sl σ 1 eu8 (.slice A n0 cc) b) (hl : b.length ≤ 10000000000000) :
    SpV Tryd.prog 32 [.slice A n0 cc, i64 i, i64 k] σ (getV b i k) := by
  have hn := hS.len
  subst hn
  refine spv Tryd.func32 rfl (by kernel_rfl) rfl fun F => ?_
  refine t_seq ?_
  refine t_region ?_
  refine l_p rfl rfl (p_assign rfl) ?_
  refine l_p rfl rfl (p_assign rfl) ?_
  refine l_nil ?_
  refine t_seq ?_
  refine t_seq ?_
  refine t_region ?_
  refine l_p rfl rfl (p_move rfl) ?_
  refine l_callv rfl rfl rfl (nfits σ _ _ _) ?_
  refine l_p rfl rfl (p_notd rfl) ?_
  refine l_p rfl rfl (p_move rfl) ?_
  refine l_split 14 rfl (fun h => by omega) (fun _ => ?_)
  refine l_p rfl rfl (p_move rfl) ?_
  refine l_p rfl rfl (p_lt rfl rfl) ?_
  refine l_p rfl rfl (p_pickf rfl rfl) ?_
  refine l_p rfl rfl (p_move rfl) ?_
  refine l_p rfl rfl (p_move rfl) ?_
  refine l_p rfl rfl (p_move rfl) ?_
  refine l_p rfl rfl (p_lensl (by exact rfl)) ?_
  refine l_p rfl rfl (p_gt rfl rfl) ?_
  refine l_p rfl rfl (p_pickf rfl rfl) ?_
  refine l_p rfl rfl (p_move rfl) ?_
  refine l_split 24 rfl (fun h1 => ?_) (fun h1 => ?_)
  · refine l_skip rfl rfl ?_
    refine l_skip rfl rfl ?_
    refine l_skip rfl rfl ?_
    refine l_skip rfl rfl ?_
    refine l_skip rfl rfl ?_
    refine l_skip rfl rfl ?_
    refine l_p rfl rfl (p_pickt rfl rfl) ?_
    refine l_nil ?_
    refine t_ift rfl ?_
    refine t_seq ?_
    refine t_region ?_
    refine l_p rfl rfl (p_assign rfl) ?_
    refine l_p rfl rfl (p_assign rfl) ?_
    refine l_nil ?_
    exact t_ret2 rfl rfl rfl fun w hI => ⟨by rw [getV, if_neg (by omega)], hI⟩
  refine l_p rfl rfl (p_move rfl) ?_
  refine l_p rfl rfl (p_move rfl) ?_
  refine l_p rfl rfl (p_lensl (by exact rfl)) ?_
  refine l_p rfl rfl (p_move rfl) ?_
  refine l_p rfl rfl (p_sub rfl rfl (by omega)) ?_
  refine l_p rfl rfl (p_gt rfl rfl) ?_
  refine l_p rfl rfl (p_pickf rfl rfl) ?_
  refine l_nil ?_
  refine t_ifd rfl (fun h2 => ?_) (fun h2 => ?_)
  · refine t_seq ?_
    refine t_region ?_
    refine l_p rfl rfl (p_assign rfl) ?_
    refine l_p rfl rfl (p_assign rfl) ?_
    refine l_nil ?_
    exact t_ret2 rfl rfl rfl fun w hI => ⟨by rw [getV, if_neg (by omega)], hI⟩
  rw [getV, if_pos (by omega)]
  have hS2 := hS.sub (i := i) (j := i + k) (by omega) (by omega)
  have hs : ((b.take (i + k)).drop i).length = k := by simp; omega
  generalize (b.take (i + k)).drop i = s at *
  have hcap : b.length ≤ cc := by obtain ⟨⟨_, _, e, hcap, _⟩, _⟩ := hS; cases e; exact hcap
  obtain ⟨A2, c2, hv2⟩ : ∃ A2 c2, slsub (Value.slice A b.length cc) 1 i (i + k) = .slice A2 s.length c2 := ⟨_, _, by rw [hs]; simp only [slsub, Nat.add_sub_cancel_left]; rfl⟩
  refine t_skip ?_
  refine t_seq ?_
  refine t_region ?_
  refine l_p rfl rfl (p_assign rfl) ?_
  refine l_nil ?_
  refine t_seq ?_
  refine t_seq ?_
  refine t_region ?_
  refine l_p rfl rfl (p_move rfl) ?_
  refine l_p rfl rfl (p_move rfl) ?_
  refine l_p rfl rfl (p_move rfl) ?_
  refine l_p rfl rfl (p_move rfl) ?_
  refine l_p rfl rfl (p_add rfl rfl (by omega)) ?_
  refine l_p rfl rfl (p_cut _ _ (by exact rfl) (by exact rfl) (by exact rfl) (by exact rfl) (by exact rfl) (by omega) (by omega)) ?_
  refine l_p rfl rfl (p_lensl (by exact rfl)) ?_
  refine l_p rfl rfl (p_move rfl) ?_
  refine l_nil ?_
  refine t_block ?_
  rw [hv2] at hS2 ⊢
  refine t_loop (ι := Nat) { E := fun j => [(37, .slice A2 s.length c2), (38, i64 s.length), (39, i64 j), (8, .int .u64 (vbe (s.take j)))], S := fun _ => σ, M := fun _ => F, Φ := fun j => j ≤ s.length } (fun j => s.length - j) 0
    (by exact ⟨rfl, gi rfl (by omega), rfl, rfl, trivial⟩) (Nat.zero_le _) (fun w hI => hI) ?_
  intro j hj
  dsimp only at hj ⊢
  refine t_seq ?_
  refine t_region ?_
  refine l_p rfl rfl (p_lt rfl rfl) ?_
  refine l_nil ?_
  refine t_seq ?_
  refine t_ifd rfl (fun h3 => ?_) (fun h3 => ?_)
  · have hj2 : j < s.length := by omega
    have hx := (s[j]).toNat_lt
    have hv := vbe_lt (s.take j)
    rw [List.length_take, Nat.min_eq_left hj] at hv
    have hp : (256 : Nat) ^ j ≤ 256 ^ 7 := Nat.pow_le_pow_right (by decide) (by omega)
    have hp7 : (256 : Nat) ^ 7 = 72057594037927936 := by decide
    have hst := or_step (vbe (s.take j)) s[j] (by omega)
    have htk : vbe (s.take (j + 1)) = vbe (s.take j) * 256 + s[j].toNat := by rw [take_succ s j hj2, vbe_snoc]
    refine t_skip ?_
    refine t_seq ?_
    refine t_block ?_
    refine t_seq ?_
    refine t_region ?_
    refine l_p rfl rfl (p_ix _ (by exact rfl) (by exact rfl) (by exact rfl) (by omega) (Rds.ix (by assumption) (by omega))) ?_
    refine l_p rfl rfl (p_ld1 (by exact rfl) (Rds.of (Rds.ix (by assumption) (by omega)) (by exact rfl))) ?_
    refine l_p rfl rfl (p_assign rfl) ?_
    refine l_nil ?_
    refine t_region ?_
    refine l_p rfl rfl (p_move rfl) ?_
    refine l_p rfl rfl (p_shl64 rfl rfl (by omega)) ?_
    refine l_p rfl rfl (p_move rfl) ?_
    refine l_p rfl rfl (p_convb64 (by exact rfl)) ?_
    refine l_p rfl rfl (p_or64 rfl rfl (by omega)) ?_
    refine l_p rfl rfl (p_assign rfl) ?_
    refine l_nil ?_
    refine t_blk ?_
    refine t_region ?_
    refine l_p rfl rfl (p_add rfl rfl (by omega)) ?_
    refine l_p rfl rfl (p_move rfl) ?_
    refine l_nil ?_
    rw [hst, ← htk]
    skip
    exact t_round (j + 1) ⟨rfl, rfl, gi rfl (by omega), rfl, trivial⟩ (by omega) (by show s.length - (j + 1) < s.length - j; omega) (fun w hI => hI)
  · have : j = s.length := by omega
    subst this
    refine t_exit rfl ?_
    refine t_seq ?_
    refine t_region ?_
    refine l_p rfl rfl (p_move rfl) ?_
    refine l_p rfl rfl (p_assign rfl) ?_
    refine l_p rfl rfl (p_assign rfl) ?_
    refine l_nil ?_
    exact t_ret2 rfl rfl rfl fun w hI => ⟨by rw [List.take_length], hI⟩
theorem bequal {σ : Stb} {A B : Option Addr} {n0 c0 n1 c1 : Nat} {a b : List UInt8} (hS : Sl σ 1 eu8 (.slice A n0 c0) a) (hT : Sl σ 1 eu8 (.slice B n1 c1) b) :
    SpV Tryd.prog 29 [.slice A n0 c0, .slice B n1 c1] σ (.bool (decide (a = b))) := by
  have hn := hS.len
  have hn' := hT.len
  subst hn; subst hn'
  have hb1 := hS.bound
  have hb2 := hT.bound
  refine spv Tryd.func29 rfl (by kernel_rfl) rfl fun F => ?_
  refine t_seq ?_
  refine t_region ?_
  refine l_p rfl rfl (p_assign rfl) ?_
  refine l_nil ?_
  refine t_seq ?_
  refine t_seq ?_
  refine t_region ?_
  refine l_p rfl rfl (p_move rfl) ?_
  refine l_p rfl rfl (p_lensl (by exact rfl)) ?_
  refine l_p rfl rfl (p_move rfl) ?_
  refine l_p rfl rfl (p_lensl (by exact rfl)) ?_
  refine l_p rfl rfl (p_ne rfl rfl) ?_
  refine l_nil ?_
  refine t_ifd rfl (fun h => ?_) (fun h => ?_)
  · refine t_seq ?_
    refine t_region ?_
    refine l_p rfl rfl (p_assign rfl) ?_
    refine l_nil ?_
    exact t_ret1 rfl rfl fun w hI => ⟨by rw [decide_eq_false]; rintro rfl; exact h rfl, hI⟩
  have h' : a.length = b.length := by omega
  refine t_skip ?_
  refine t_seq ?_
  refine t_seq ?_
  refine t_region ?_
  refine l_p rfl rfl (p_move rfl) ?_
  refine l_p rfl rfl (p_lensl (by exact rfl)) ?_
  refine l_p rfl rfl (p_move rfl) ?_
  refine l_nil ?_
  refine t_block ?_
  refine t_loop (ι := Nat) { E := fun j => [(0, .slice A a.length c0), (1, .slice B b.length c1), (12, i64 a.length), (13, i64 j)], S := fun _ => σ, M := fun _ => F, Φ := fun j => j ≤ a.length ∧ a.take j = b.take j } (fun j => a.length - j) 0
    (by exact ⟨rfl, rfl, rfl, rfl, trivial⟩) ⟨Nat.zero_le _, rfl⟩ (fun w hI => hI) ?_
  rintro j ⟨hj, he⟩
  dsimp only at hj he ⊢
  refine t_seq ?_
  refine t_region ?_
  refine l_p rfl rfl (p_lt rfl rfl) ?_
  refine l_nil ?_
  refine t_seq ?_
  refine t_ifd rfl (fun h3 => ?_) (fun h3 => ?_)
  · have hj2 : j < a.length := by omega
    have hj3 : j < b.length := by omega
    refine t_skip ?_
    refine t_seq ?_
    refine t_block ?_
    refine t_seq ?_
    refine t_region ?_
    refine l_p rfl rfl (p_move rfl) ?_
    refine l_p rfl rfl (p_assign rfl) ?_
    refine l_nil ?_
    refine t_seq ?_
    refine t_draw (by kernel_rfl) ?_
    refine q_p rfl rfl (p_move rfl) ?_
    refine q_p rfl rfl (p_move rfl) ?_
    refine q_p rfl rfl (p_ix _ (by exact rfl) (by exact rfl) (by exact rfl) (by omega) (Rds.ix (by assumption) (by omega))) ?_
    refine q_p rfl rfl (p_ld1 (by exact rfl) (Rds.of (Rds.ix (by assumption) (by omega)) (by exact rfl))) ?_
    refine q_p rfl rfl (p_move rfl) ?_
    refine q_p rfl rfl (p_move rfl) ?_
    refine q_p rfl rfl (p_ix _ (by exact rfl) (by exact rfl) (by exact rfl) (by omega) (Rds.ix (by assumption) (by omega))) ?_
    refine q_p rfl rfl (p_ld1 (by exact rfl) (Rds.of (Rds.ix (by assumption) (by omega)) (by exact rfl))) ?_
    refine q_p rfl rfl (p_ne rfl rfl) ?_
    refine q_nil ?_
    refine t_ifd rfl (fun h4 => ?_) (fun h4 => ?_)
    · refine t_seq ?_
      refine t_region ?_
      refine l_p rfl rfl (p_assign rfl) ?_
      refine l_nil ?_
      exact t_ret1 rfl rfl fun w hI => ⟨by rw [decide_eq_false]; rintro rfl; exact h4 rfl, hI⟩
    · refine t_skip ?_
      refine t_blk ?_
      refine t_region ?_
      refine l_p rfl rfl (p_add rfl rfl (by omega)) ?_
      refine l_p rfl rfl (p_move rfl) ?_
      refine l_nil ?_
      refine t_round (j + 1) ⟨rfl, rfl, rfl, gi rfl (by omega), trivial⟩ ⟨by omega, ?_⟩ (by show a.length - (j + 1) < a.length - j; omega) (fun w hI => hI)
      rw [take_succ a j hj2, take_succ b j hj3, he]
      congr 2
      apply UInt8.toNat_inj.1
      omega
  · have : j = a.length := by omega
    subst this
    rw [List.take_length, h', List.take_length] at he
    refine t_exit rfl ?_
    refine t_seq ?_
    refine t_region ?_
    refine l_p rfl rfl (p_assign rfl) ?_
    refine l_nil ?_
    exact t_ret1 rfl rfl fun w hI => ⟨by rw [decide_eq_true he], hI⟩
theorem bgrow (σ : Stb) (n : Nat) (hn : n ≤ 100000000000000) : Sp1 Tryd.prog 62 [.slice none 0 0, i64 n] σ fun v σ' r => σ = σ' ∧ ∃ A c, v = .slice A 0 c ∧ r = own 1 eu8 5 (.slice A 0 c) ([] : List UInt8) := by
  refine sp1 Tryd.func62 rfl (by kernel_rfl) rfl fun F => ?_
  refine t_seq ?_
  refine t_region ?_
  refine l_p rfl rfl (p_assign rfl) ?_
  refine l_nil ?_
  refine t_seq ?_
  refine t_seq ?_
  refine t_region ?_
  refine l_p rfl rfl (p_move rfl) ?_
  refine l_p rfl rfl (p_lt rfl rfl) ?_
  refine l_nil ?_
  refine t_iff rfl ?_
  refine t_skip ?_
  refine t_seq ?_
  refine t_seq ?_
  refine t_region ?_
  refine l_p rfl rfl (p_move rfl) ?_
  refine l_p rfl rfl (p_move rfl) ?_
  refine l_p rfl rfl (p_capsl (by exact rfl)) ?_
  refine l_p rfl rfl (p_move rfl) ?_
  refine l_p rfl rfl (p_lensl (by exact rfl)) ?_
  refine l_p rfl rfl (p_sub rfl rfl (by omega)) ?_
  refine l_p rfl rfl (p_sub rfl rfl (by omega)) ?_
  refine l_p rfl rfl (p_assign rfl) ?_
  refine l_nil ?_
  refine t_seq ?_
  refine t_region ?_
  refine l_p rfl rfl (p_move rfl) ?_
  refine l_p rfl rfl (p_gt rfl rfl) ?_
  refine l_nil ?_
  refine t_ifd rfl (fun h => ?_) (fun h => ?_)
  · refine t_region ?_
    refine l_p rfl rfl (p_move rfl) ?_
    refine l_p rfl rfl (p_move rfl) ?_
    refine l_p rfl rfl (p_capsl (by exact rfl)) ?_
    refine l_p rfl rfl (p_cuth _ (by exact rfl) (by exact rfl) (by exact rfl) (by omega)) ?_
    refine l_p rfl rfl (p_move rfl) ?_
    refine l_apz (n := n) rfl rfl rfl (by exact congrArg some (by simp)) (by omega) (by omega) fun A' c' => ?_
    refine l_p rfl rfl (p_move rfl) ?_
    refine l_p rfl rfl (p_lensl (by exact rfl)) ?_
    refine l_p rfl rfl (p_cuth _ (by exact rfl) (by exact rfl) (by exact rfl) (by omega)) ?_
    refine l_p rfl rfl (p_assign rfl) ?_
    refine l_nil ?_
    refine t_seq ?_
    refine t_region ?_
    refine l_p rfl rfl (p_move rfl) ?_
    refine l_p rfl rfl (p_assign rfl) ?_
    refine l_nil ?_
    rw [show slsub (.slice (some ⟨A', 0, none⟩) n c') 1 0 0 = _ from sub00 ..]
    exact t_ret1 rfl rfl fun w hI => ⟨σ, _, .refl σ, ⟨rfl, _, _, rfl, rfl⟩, hI.cut0⟩
  · refine t_skip ?_
    refine t_seq ?_
    refine t_region ?_
    refine l_p rfl rfl (p_move rfl) ?_
    refine l_p rfl rfl (p_assign rfl) ?_
    refine l_nil ?_
    exact t_ret1 rfl rfl fun w hI => ⟨σ, _, .refl σ, ⟨rfl, none, 0, rfl, rfl⟩, hI.own0 ..⟩
abbrev esl (p : Value × List UInt8) : List Value := [p.1]
theorem bconcat {σ : Stb} {A : Option Addr} {n0 c0 : Nat} {l : List (Value × List UInt8)} (hS : Sl σ 1 esl (.slice A n0 c0) l) (hl : ∀ p ∈ l, Sl σ 1 eu8 p.1 p.2) (hn : (l.map (·.2)).flatten.length ≤ 10000000000000) :
    Sp0 Tryd.prog 53 [.slice A n0 c0] σ fun v σ' => Sl σ' 1 eu8 v (l.map (·.2)).flatten := by
  have hn0 := hS.len
  subst hn0
  have hb := hS.bound
  have hpre : ∀ i, i ≤ l.length → ((l.take i).map (·.2)).flatten.length ≤ (l.map (·.2)).flatten.length := fun i hi => by
    have := congrArg (fun l : List (Value × List UInt8) => (l.map (·.2)).flatten.length) (List.take_append_drop i l)
    simp only [List.map_append, List.flatten_append, List.length_append] at this
    omega
  have hnx : ∀ i (hi : i < l.length), ((l.take (i + 1)).map (·.2)).flatten = ((l.take i).map (·.2)).flatten ++ l[i].2 := fun i hi => by
    rw [take_succ l i hi, List.map_append, List.flatten_append]
    simp only [List.map_cons, List.map_nil, List.flatten_cons, List.flatten_nil, List.append_nil]
  refine sp0 Tryd.func53 rfl (by kernel_rfl) rfl fun F => ?_
  refine t_seq ?_
  refine t_region ?_
  refine l_p rfl rfl (p_assign rfl) ?_
  refine l_nil ?_
  refine t_seq ?_
  refine t_region ?_
  refine l_p rfl rfl (p_assign rfl) ?_
  refine l_nil ?_
  refine t_seq ?_
  refine t_seq ?_
  refine t_region ?_
  refine l_p rfl rfl (p_move rfl) ?_
  refine l_p rfl rfl (p_lensl (by exact rfl)) ?_
  refine l_p rfl rfl (p_move rfl) ?_
  refine l_nil ?_
  refine t_block ?_
  refine t_loop (ι := Nat) { E := fun j => [(0, .slice A l.length c0), (9, .slice A l.length c0), (10, i64 l.length), (11, i64 j), (3, i64 ((l.take j).map (·.2)).flatten.length)], S := fun _ => σ, M := fun _ => F, Φ := fun j => j ≤ l.length } (fun j => l.length - j) 0
    (by exact ⟨rfl, rfl, rfl, rfl, rfl, trivial⟩) (Nat.zero_le _) (fun w hI => hI) ?_
  intro j hj
  dsimp only at hj ⊢
  refine t_seq ?_
  refine t_region ?_
  refine l_p rfl rfl (p_lt rfl rfl) ?_
  refine l_nil ?_
  refine t_seq ?_
  refine t_ifd rfl (fun h => ?_) (fun h => ?_)
  · have hj2 : j < l.length := by omega
    obtain ⟨⟨Ai, ci, hv, _⟩, _⟩ := hl l[j] (List.getElem_mem hj2)
    have h1 := hpre (j + 1) (by omega)
    have h2 := congrArg List.length (hnx j hj2)
    rw [List.length_append] at h2
    refine t_skip ?_
    refine t_seq ?_
    refine t_block ?_
    refine t_seq ?_
    refine t_region ?_
    refine l_p rfl rfl (p_ix _ (by exact rfl) (by exact rfl) (by exact rfl) (by omega) (Rds.ix (by assumption) (by omega))) ?_
    refine l_p rfl rfl (p_ld1 (by exact rfl) (Rds.of (Rds.ix (by assumption) (by omega)) (by exact rfl))) ?_
    refine l_p rfl rfl (p_assign rfl) ?_
    refine l_nil ?_
    refine t_seq ?_
    refine t_region ?_
    refine l_p rfl rfl (p_move rfl) ?_
    refine l_p rfl rfl (p_move rfl) ?_
    rw [hv]
    refine l_p rfl rfl (p_lensl (by exact rfl)) ?_
    refine l_p rfl rfl (p_add rfl rfl (by omega)) ?_
    refine l_p rfl rfl (p_assign rfl) ?_
    refine l_nil ?_
    refine t_seq ?_
    refine t_region ?_
    refine l_p rfl rfl (p_move rfl) ?_
    refine l_p rfl rfl (p_lt rfl rfl) ?_
    refine l_nil ?_
    refine t_iff rfl ?_
    refine t_skip ?_
    refine t_blk ?_
    refine t_region ?_
    refine l_p rfl rfl (p_add rfl rfl (by omega)) ?_
    refine l_p rfl rfl (p_move rfl) ?_
    refine l_nil ?_
    exact t_round (j + 1) ⟨rfl, rfl, rfl, gi rfl (by omega), gi rfl (by rw [h2]; omega), trivial⟩ (by omega) (by show l.length - (j + 1) < l.length - j; omega) (fun w hI => hI)
  have : j = l.length := by omega
  subst this
  rw [List.take_length]
  refine t_exit rfl ?_
  refine t_seq ?_
  refine t_region ?_
  refine l_p rfl rfl (p_move rfl) ?_
  refine l_call1 rfl rfl rfl (bgrow σ _ (by omega)) ?_
  rintro _ _ _ - ⟨rfl, A1, c1, rfl, rfl⟩
  refine l_p rfl rfl (p_assign rfl) ?_
  refine l_nil ?_
  refine t_seq ?_
  refine t_seq ?_
  refine t_region ?_
  refine l_p rfl rfl (p_move rfl) ?_
  refine l_p rfl rfl (p_lensl (by exact rfl)) ?_
  refine l_p rfl rfl (p_move rfl) ?_
  refine l_nil ?_
  refine t_block ?_
  refine t_loop (ι := Nat × Option Addr × Nat × List Res) { E := fun i => [(25, .slice A l.length c0), (26, i64 l.length), (27, i64 i.1), (6, .slice i.2.1 ((l.take i.1).map (·.2)).flatten.length i.2.2.1)], S := fun _ => σ, M := fun i => own 1 eu8 5 (.slice i.2.1 ((l.take i.1).map (·.2)).flatten.length i.2.2.1) ((l.take i.1).map (·.2)).flatten :: (i.2.2.2 ++ F), Φ := fun i => i.1 ≤ l.length } (fun i => l.length - i.1) (0, A1, c1, [])
    (by exact ⟨rfl, rfl, rfl, rfl, trivial⟩) (Nat.zero_le _) (fun w hI => hI) ?_
  rintro ⟨j, A2, c2, R⟩ hj
  dsimp only at hj ⊢
  refine t_seq ?_
  refine t_region ?_
  refine l_p rfl rfl (p_lt rfl rfl) ?_
  refine l_nil ?_
  refine t_seq ?_
  refine t_ifd rfl (fun h2 => ?_) (fun h2 => ?_)
  · have hj2 : j < l.length := by omega
    have hSj := hl l[j] (List.getElem_mem hj2)
    have h1 := hpre (j + 1) (by omega)
    rw [hnx j hj2, List.length_append] at h1
    have hw : ∀ (w : World) A' c', Sp.Inv σ (own 1 eu8 5 (.slice A' (((l.take j).map (·.2)).flatten.length + l[j].2.length) c') (((l.take j).map (·.2)).flatten ++ l[j].2) :: (R ++ F)) w → Sp.Inv σ (own 1 eu8 5 (.slice A' ((l.take (j + 1)).map (·.2)).flatten.length c') ((l.take (j + 1)).map (·.2)).flatten :: (R ++ F)) w := fun w A' c' hI => by rw [hnx j hj2, List.length_append]; exact hI
    refine t_skip ?_
    refine t_seq ?_
    refine t_block ?_
    refine t_seq ?_
    refine t_region ?_
    refine l_p rfl rfl (p_ix _ (by exact rfl) (by exact rfl) (by exact rfl) (by omega) (Rds.ix (by assumption) (by omega))) ?_
    refine l_p rfl rfl (p_ld1 (by exact rfl) (Rds.of (Rds.ix (by assumption) (by omega)) (by exact rfl))) ?_
    refine l_p rfl rfl (p_assign rfl) ?_
    refine l_nil ?_
    refine t_region ?_
    refine l_p rfl rfl (p_move rfl) ?_
    refine l_p rfl rfl (p_move rfl) ?_
    refine l_appu (xs := ((l.take j).map (·.2)).flatten) l[j].2 rfl rfl rfl rfl .z (Src.slu hSj) rfl (by omega) fun A' c' => ?_
    refine l_p rfl rfl (p_assign rfl) ?_
    refine l_nil ?_
    refine t_blk ?_
    refine t_region ?_
    refine l_p rfl rfl (p_add rfl rfl (by omega)) ?_
    refine l_p rfl rfl (p_move rfl) ?_
    refine l_nil ?_
    exact t_round (j + 1, A', c', R) ⟨rfl, rfl, gi rfl (by omega), gs rfl (by rw [hnx j hj2, List.length_append]), trivial⟩ (by omega) (by show l.length - (j + 1) < l.length - j; omega) (fun w hI => hw w A' c' hI)
  · have : j = l.length := by omega
    subst this
    rw [List.take_length]
    refine t_exit rfl ?_
    refine t_seq ?_
    refine t_region ?_
    refine l_p rfl rfl (p_move rfl) ?_
    refine l_p rfl rfl (p_assign rfl) ?_
    refine l_nil ?_
    refine t_fzo .z fun σ' hσ hS' => ?_
    exact t_ret1 rfl rfl fun w hI => ⟨σ', hσ, hS', hI.dropN R⟩
end Go.Proofs.YtbijponhndknlaaDoor
