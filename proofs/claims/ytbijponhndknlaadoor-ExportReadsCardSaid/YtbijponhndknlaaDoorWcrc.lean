/- Sums of bytes, and the document's: walks. -/
import Derived.Test.YtbijponhndknlaaDoorWbytes
set_option linter.unusedSimpArgs false
set_option linter.unusedVariables false
set_option maxRecDepth 20000
namespace Go.Proofs.YtbijponhndknlaaDoor
open Go.Sp
attribute [local irreducible] Go.Sp.Pr Go.Sp.Ws Go.Sp.Wl Go.Sp.Wq Go.Sp.Rds Go.Sp.Src
abbrev u32 (n : Nat) : Value := .int .u32 n
theorem crcnext (σ : Stb) (c : Nat) (b : UInt8) (hc : c < 4294967296) : SpV Tryd.prog 66 [u32 c, u8 b] σ (u32 (crcNext c b.toNat)) := by
  have hb := b.toNat_lt
  have hx : c ^^^ b.toNat < 4294967296 := Nat.xor_lt_two_pow (n := 32) hc (by omega)
  refine spv Tryd.func66 rfl (by kernel_rfl) rfl fun F => ?_
  refine t_seq ?_
  refine t_region ?_
  refine l_p rfl rfl (p_assign rfl) ?_
  refine l_nil ?_
  refine t_seq ?_
  refine t_region ?_
  refine l_p rfl rfl (p_move rfl) ?_
  refine l_p rfl rfl (p_move rfl) ?_
  refine l_p rfl rfl (p_convb32 (by exact rfl)) ?_
  refine l_p rfl rfl (p_xor32 rfl rfl (by omega)) ?_
  refine l_p rfl rfl (p_assign rfl) ?_
  refine l_nil ?_
  refine t_seq ?_
  refine t_seq ?_
  refine t_region ?_
  refine l_p rfl rfl (p_move rfl) ?_
  refine l_nil ?_
  refine t_block ?_
  refine t_loop (ι := Nat) { E := fun j => [(0, u32 (crcK (c ^^^ b.toNat) j)), (10, i64 j)], S := fun _ => σ, M := fun _ => F, Φ := fun j => j ≤ 8 } (fun j => 8 - j) 0
    (by exact ⟨rfl, rfl, trivial⟩) (Nat.zero_le _) (fun w hI => hI) ?_
  intro j hj
  have hlt : crcK (c ^^^ b.toNat) j < 4294967296 := by rw [crcK_eq]; exact crcN_lt j hx
  have hs : crcK (c ^^^ b.toNat) (j + 1) = crcStep (crcK (c ^^^ b.toNat) j) := rfl
  have h8 : j = 8 → crcK (c ^^^ b.toNat) j = crcNext c b.toNat := by rintro rfl; exact crcK_eq _ 8
  dsimp only at hj ⊢
  generalize crcK (c ^^^ b.toNat) j = x at *
  refine t_seq ?_
  refine t_region ?_
  refine l_p rfl rfl (p_lt rfl rfl) ?_
  refine l_nil ?_
  refine t_seq ?_
  refine t_ifd rfl (fun h => ?_) (fun h => ?_)
  · refine t_skip ?_
    refine t_seq ?_
    refine t_block ?_
    refine t_seq ?_
    refine t_region ?_
    refine l_p rfl rfl (p_move rfl) ?_
    refine l_p rfl rfl (p_and132 rfl rfl (by omega)) ?_
    refine l_p rfl rfl (p_assign rfl) ?_
    refine l_nil ?_
    refine t_seq ?_
    refine t_region ?_
    refine l_p rfl rfl (p_move rfl) ?_
    refine l_p rfl rfl (p_shr321 rfl rfl) ?_
    refine l_p rfl rfl (p_assign rfl) ?_
    refine l_nil ?_
    refine t_seq ?_
    refine t_region ?_
    refine l_p rfl rfl (p_move rfl) ?_
    refine l_p rfl rfl (p_eq rfl rfl) ?_
    refine l_nil ?_
    refine t_ifd rfl (fun h2 => ?_) (fun h2 => ?_)
    · refine t_region ?_
      refine l_p rfl rfl (p_move rfl) ?_
      refine l_p rfl rfl (p_xor32 rfl rfl (by omega)) ?_
      refine l_p rfl rfl (p_assign rfl) ?_
      refine l_nil ?_
      refine t_blk ?_
      refine t_region ?_
      refine l_p rfl rfl (p_add rfl rfl (by omega)) ?_
      refine l_p rfl rfl (p_move rfl) ?_
      refine l_nil ?_
      exact t_round (j + 1) ⟨gi rfl (by rw [hs, crcStep, if_pos (by omega)]; rfl), gi rfl (by omega), trivial⟩ (by omega) (by show 8 - (j + 1) < 8 - j; omega) (fun w hI => hI)
    · refine t_skip ?_
      refine t_blk ?_
      refine t_region ?_
      refine l_p rfl rfl (p_add rfl rfl (by omega)) ?_
      refine l_p rfl rfl (p_move rfl) ?_
      refine l_nil ?_
      exact t_round (j + 1) ⟨gi rfl (by rw [hs, crcStep, if_neg (by omega)]; rfl), gi rfl (by omega), trivial⟩ (by omega) (by show 8 - (j + 1) < 8 - j; omega) (fun w hI => hI)
  · have : j = 8 := by omega
    refine t_exit rfl ?_
    refine t_seq ?_
    refine t_region ?_
    refine l_p rfl rfl (p_move rfl) ?_
    refine l_p rfl rfl (p_assign rfl) ?_
    refine l_nil ?_
    exact t_ret1 rfl rfl fun w hI => ⟨by rw [h8 this], hI⟩
theorem crcmany {σ : Stb} {A : Option Addr} {n0 c0 : Nat} {b : List UInt8} (c : Nat) (hc : c < 4294967296) (hS : Sl σ 1 eu8 (.slice A n0 c0) b) : SpV Tryd.prog 58 [u32 c, .slice A n0 c0] σ (u32 (crcMany c b)) := by
  have hn := hS.len
  subst hn
  have hb := hS.bound
  refine spv Tryd.func58 rfl (by kernel_rfl) rfl fun F => ?_
  refine t_seq ?_
  refine t_region ?_
  refine l_p rfl rfl (p_assign rfl) ?_
  refine l_nil ?_
  refine t_seq ?_
  refine t_seq ?_
  refine t_region ?_
  refine l_p rfl rfl (p_move rfl) ?_
  refine l_p rfl rfl (p_lensl (by exact rfl)) ?_
  refine l_p rfl rfl (p_move rfl) ?_
  refine l_nil ?_
  refine t_block ?_
  refine t_loop (ι := Nat) { E := fun j => [(0, u32 (crcMany c (b.take j))), (7, .slice A b.length c0), (8, i64 b.length), (9, i64 j)], S := fun _ => σ, M := fun _ => F, Φ := fun j => j ≤ b.length } (fun j => b.length - j) 0
    (by exact ⟨rfl, rfl, rfl, rfl, trivial⟩) (Nat.zero_le _) (fun w hI => hI) ?_
  intro j hj
  dsimp only at hj ⊢
  refine t_seq ?_
  refine t_region ?_
  refine l_p rfl rfl (p_lt rfl rfl) ?_
  refine l_nil ?_
  refine t_seq ?_
  refine t_ifd rfl (fun h => ?_) (fun h => ?_)
  · have hj2 : j < b.length := by omega
    refine t_skip ?_
    refine t_seq ?_
    refine t_block ?_
    refine t_seq ?_
    refine t_region ?_
    refine l_p rfl rfl (p_ix _ (by exact rfl) (by exact rfl) (by exact rfl) (by omega) (Rds.ix (by assumption) (by omega))) ?_
    refine l_p rfl rfl (p_ld1 (by exact rfl) (Rds.of (Rds.ix (by assumption) (by omega)) (by exact rfl))) ?_
    refine l_p rfl rfl (p_assign rfl) ?_
    refine l_nil ?_
    refine t_region ?_
    refine l_p rfl rfl (p_move rfl) ?_
    refine l_p rfl rfl (p_move rfl) ?_
    refine l_callv rfl rfl rfl (crcnext σ _ _ (crcMany_lt _ hc)) ?_
    refine l_p rfl rfl (p_assign rfl) ?_
    refine l_nil ?_
    refine t_blk ?_
    refine t_region ?_
    refine l_p rfl rfl (p_add rfl rfl (by omega)) ?_
    refine l_p rfl rfl (p_move rfl) ?_
    refine l_nil ?_
    exact t_round (j + 1) ⟨gi rfl (by rw [take_succ b j hj2, crcMany_snoc]), rfl, rfl, gi rfl (by omega), trivial⟩ (by omega) (by show b.length - (j + 1) < b.length - j; omega) (fun w hI => hI)
  · have : j = b.length := by omega
    subst this
    refine t_exit rfl ?_
    refine t_seq ?_
    refine t_region ?_
    refine l_p rfl rfl (p_move rfl) ?_
    refine l_p rfl rfl (p_assign rfl) ?_
    refine l_nil ?_
    exact t_ret1 rfl rfl fun w hI => ⟨by rw [List.take_length], hI⟩
theorem crcsum {σ : Stb} {A : Option Addr} {n0 c0 : Nat} {b : List UInt8} (hS : Sl σ 1 eu8 (.slice A n0 c0) b) : SpV Tryd.prog 43 [.slice A n0 c0] σ (u32 (crcSum b)) := by
  have hlt := crcMany_lt b (c := 4294967295) (by decide)
  refine spv Tryd.func43 rfl (by kernel_rfl) rfl fun F => ?_
  refine t_seq ?_
  refine t_region ?_
  refine l_p rfl rfl (p_assign rfl) ?_
  refine l_nil ?_
  refine t_seq ?_
  refine t_region ?_
  refine l_p rfl rfl (p_move rfl) ?_
  refine l_callv rfl rfl rfl (crcmany 4294967295 (by decide) hS) ?_
  refine l_p rfl rfl (p_compl32 rfl (by omega)) ?_
  refine l_p rfl rfl (p_assign rfl) ?_
  refine l_nil ?_
  exact t_ret1 rfl rfl fun w hI => ⟨rfl, hI⟩
theorem le4_take (c : Nat) {m : Nat} (hm : m < 4) : (le4 c).take (m + 1) = (le4 c).take m ++ [UInt8.ofNat (c / 256 ^ m)] := by
  obtain rfl | rfl | rfl | rfl : m = 0 ∨ m = 1 ∨ m = 2 ∨ m = 3 := by omega
  all_goals simp [le4]
theorem crctail {σ : Stb} {A : Option Addr} {n0 c0 : Nat} {b : List UInt8} (hS : Sl σ 1 eu8 (.slice A n0 c0) b) : Sp0 Tryd.prog 30 [.slice A n0 c0] σ fun v σ' => Sl σ' 1 eu8 v (le4 (crcSum b)) := by
  have hlt := crcSum_lt b
  refine sp0 Tryd.func30 rfl (by kernel_rfl) rfl fun F => ?_
  refine t_seq ?_
  refine t_region ?_
  refine l_p rfl rfl (p_assign rfl) ?_
  refine l_nil ?_
  refine t_seq ?_
  refine t_region ?_
  refine l_p rfl rfl (p_move rfl) ?_
  refine l_callv rfl rfl rfl (crcsum hS) ?_
  generalize crcSum b = c at *
  refine l_p rfl rfl (p_assign rfl) ?_
  refine l_nil ?_
  refine t_seq ?_
  refine t_region ?_
  refine l_p rfl rfl (p_assign rfl) ?_
  refine l_nil ?_
  refine t_seq ?_
  refine t_seq ?_
  refine t_region ?_
  refine l_p rfl rfl (p_move rfl) ?_
  refine l_nil ?_
  refine t_block ?_
  refine t_loop (ι := Nat × Option Addr × Nat × List Res) { E := fun i => [(3, u32 c), (8, i64 i.1), (4, .slice i.2.1 ((le4 c).take i.1).length i.2.2.1)], S := fun _ => σ, M := fun i => own 1 eu8 5 (.slice i.2.1 ((le4 c).take i.1).length i.2.2.1) ((le4 c).take i.1) :: (i.2.2.2 ++ F), Φ := fun i => i.1 ≤ 4 } (fun i => 4 - i.1) (0, none, 0, [])
    (by exact ⟨rfl, rfl, rfl, trivial⟩) (by simp) (fun w hI => hI.own0 ..) ?_
  rintro ⟨j, A2, c2, R⟩ hj
  have hl : ((le4 c).take j).length = j := by
    have : (le4 c).length = 4 := rfl
    dsimp only at hj
    simp; omega
  dsimp only at hj ⊢
  refine t_seq ?_
  refine t_region ?_
  refine l_p rfl rfl (p_lt rfl rfl) ?_
  refine l_nil ?_
  refine t_seq ?_
  refine t_ifd rfl (fun h => ?_) (fun h => ?_)
  · have hst := le4_take c (m := j) (by omega)
    have hv : c / 2 ^ (8 * (j : Int)).toNat = c / 256 ^ j := by rw [show (8 * (j : Int)).toNat = 8 * j by omega, Nat.pow_mul]
    have hw : ∀ (w : World) A' c' R', Sp.Inv σ (own 1 eu8 5 (.slice A' (((le4 c).take j).length + 1) c') ((le4 c).take j ++ [UInt8.ofNat (c / 256 ^ j)]) :: (R' ++ F)) w → Sp.Inv σ (own 1 eu8 5 (.slice A' ((le4 c).take (j + 1)).length c') ((le4 c).take (j + 1)) :: (R' ++ F)) w := fun w A' c' R' hI => by rw [hst, List.length_append]; exact hI
    have hle : ((le4 c).take (j + 1)).length = ((le4 c).take j).length + 1 := by rw [hst, List.length_append]; rfl
    refine t_skip ?_
    refine t_seq ?_
    refine t_block ?_
    refine t_seq ?_
    refine t_region ?_
    refine l_p rfl rfl (p_move rfl) ?_
    refine l_p rfl rfl (p_assign rfl) ?_
    refine l_nil ?_
    refine t_region ?_
    refine l_p rfl rfl (p_move rfl) ?_
    refine l_p rfl rfl (p_move rfl) ?_
    refine l_p rfl rfl (p_move rfl) ?_
    refine l_p rfl rfl (p_mul rfl rfl (by omega)) ?_
    refine l_p rfl rfl (p_shr32 rfl rfl (by omega)) ?_
    refine l_p rfl rfl (p_convb (by exact rfl)) ?_
    refine l_bsl (by exact rfl) (by exact rfl) (by exact rfl) (by exact rfl) (by exact rfl) (by exact rfl) (by exact rfl) ?_; intro _
    rw [hv]
    refine l_app1 (enc := eu8) (UInt8.ofNat (c / 256 ^ j)) rfl rfl rfl rfl (.s .z) .z (by exact rfl) rfl (by exact rfl) (by exact rfl) (by omega) (by omega) fun A' c' => ?_
    refine l_p rfl rfl (p_assign rfl) ?_
    refine l_nil ?_
    refine t_blk ?_
    refine t_region ?_
    refine l_p rfl rfl (p_add rfl rfl (by omega)) ?_
    refine l_p rfl rfl (p_move rfl) ?_
    refine l_nil ?_
    exact t_round (j + 1, A', c', _ :: R) ⟨rfl, gi rfl (by omega), gs rfl (by rw [hle]), trivial⟩ (by omega) (by show 4 - (j + 1) < 4 - j; omega) (fun w hI => hw w A' c' (_ :: R) hI)
  · have : j = 4 := by omega
    subst this
    refine t_exit rfl ?_
    refine t_seq ?_
    refine t_region ?_
    refine l_p rfl rfl (p_move rfl) ?_
    refine l_p rfl rfl (p_assign rfl) ?_
    refine l_nil ?_
    refine t_fzo .z fun σ' hσ hS' => ?_
    exact t_ret1 rfl rfl fun w hI => ⟨σ', hσ, hS', hI.dropN R⟩
theorem le4_len (c : Nat) : (le4 c).length = 4 := rfl
theorem crcseal {σ : Stb} {A : Option Addr} {n0 c0 : Nat} {b : List UInt8} (hS : Sl σ 1 eu8 (.slice A n0 c0) b) (hl : b.length ≤ 1000000000000) : Sp0 Tryd.prog 38 [.slice A n0 c0] σ fun v σ' => Sl σ' 1 eu8 v (sealB b) := by
  refine sp0 Tryd.func38 rfl (by kernel_rfl) rfl fun F => ?_
  refine t_seq ?_
  refine t_region ?_
  refine l_p rfl rfl (p_assign rfl) ?_
  refine l_nil ?_
  refine t_seq ?_
  refine t_region ?_
  refine l_p rfl rfl (p_move rfl) ?_
  refine l_p rfl rfl (p_move rfl) ?_
  refine l_call0 rfl rfl rfl (crctail hS) ?_
  intro v σ1 h1 hS2
  obtain ⟨A2, c2, rfl, _⟩ := hS2.shape
  have hS1 := hS.up h1
  refine l_bsl (by exact rfl) (by exact rfl) (by exact rfl) (by exact rfl) (by exact rfl) (by exact rfl) (by exact rfl) ?_; intro _
  refine l_ownb 1 esl [((.slice A n0 c0 : Value), b), (.slice A2 _ c2, le4 (crcSum b))] 2 .z rfl (by exact rfl) (by simp) (by simp) ?_
  refine l_fzo .z fun σ2 h2 hS3 => ?_
  refine l_call0 rfl rfl rfl (bconcat hS3 (by
    intro p hp
    rcases List.mem_cons.1 hp with rfl | hp
    · exact hS1.up h2
    · rcases List.mem_cons.1 hp with rfl | hp
      · exact hS2.up h2
      · cases hp) (by simp [le4_len]; omega)) ?_
  intro v3 σ3 h3 hS4
  refine l_p rfl rfl (p_assign rfl) ?_
  refine l_nil ?_
  exact t_ret1 rfl rfl fun w hI => ⟨σ3, (h1.trans h2).trans h3, by simpa [sealB] using hS4, hI⟩
theorem crcopen {σ : Stb} {A : Option Addr} {n0 c0 : Nat} {b : List UInt8} (hS : Sl σ 1 eu8 (.slice A n0 c0) b) (hl : b.length ≤ 1000000000000) : Sp0 Tryd.prog 18 [.slice A n0 c0] σ fun v σ' => ∃ sv, v = .tuple #[sv, i64 (openB b).2] ∧ Sl σ' 1 eu8 sv (openB b).1 := by
  have hn := hS.len
  subst hn
  refine sp0 Tryd.func18 rfl (by kernel_rfl) rfl fun F => ?_
  refine t_seq ?_
  refine t_region ?_
  refine l_p rfl rfl (p_assign rfl) ?_
  refine l_p rfl rfl (p_assign rfl) ?_
  refine l_nil ?_
  refine t_seq ?_
  refine t_region ?_
  refine l_p rfl rfl (p_move rfl) ?_
  refine l_p rfl rfl (p_lensl (by exact rfl)) ?_
  refine l_p rfl rfl (p_sub rfl rfl (by omega)) ?_
  refine l_p rfl rfl (p_assign rfl) ?_
  refine l_nil ?_
  refine t_seq ?_
  refine t_seq ?_
  refine t_region ?_
  refine l_p rfl rfl (p_move rfl) ?_
  refine l_p rfl rfl (p_lt rfl rfl) ?_
  refine l_nil ?_
  refine t_ifd rfl (fun h => ?_) (fun h => ?_)
  · have e : openB b = ([], 3) := by rw [openB, if_pos (by omega)]
    rw [e]
    refine t_seq ?_
    refine t_region ?_
    refine l_p rfl rfl (p_assign rfl) ?_
    refine l_p rfl rfl (p_assign rfl) ?_
    refine l_nil ?_
    exact t_ret2 rfl rfl rfl fun w hI => ⟨σ, .refl σ, ⟨_, rfl, Sl.nil ..⟩, hI⟩
  obtain ⟨m, hm⟩ : ∃ m, b.length = m + 4 := ⟨b.length - 4, by omega⟩
  have hm2 : (b.length : Int) - 4 = (m : Int) := by omega
  obtain ⟨_, _, e, hcap⟩ := hS.shape
  cases e
  rw [hm2]
  refine t_skip ?_
  refine t_seq ?_
  refine t_seq ?_
  refine t_drawd _ (fun w hI => hI) ?_
  refine d_take 0 rfl (by kernel_rfl) rfl rfl (p_move rfl) ?_
  refine d_take 1 rfl (by kernel_rfl) rfl rfl (p_move rfl) ?_
  refine d_take 2 rfl (by kernel_rfl) rfl rfl (p_cuth _ (by exact rfl) (by exact rfl) (by exact rfl) (by omega)) ?_
  refine d_take 4 rfl (by kernel_rfl) rfl rfl (p_move rfl) ?_
  refine d_take 5 rfl (by kernel_rfl) rfl rfl (p_move rfl) ?_
  refine d_take 6 rfl (by kernel_rfl) rfl rfl (p_cutl _ (by exact rfl) (by exact rfl) (by exact rfl) (by omega)) ?_
  refine d_br1 (i := 3) (by kernel_rfl) rfl ?_
  have hS12 := hS.sub (i := 0) (j := m) (by omega) (by omega)
  rw [List.drop_zero] at hS12
  have hS16 := hS.sub (i := m) (j := b.length) (by omega) (by omega)
  rw [List.take_length] at hS16
  obtain ⟨A3, c3, e3, _⟩ := hS12.shape
  obtain ⟨A4, c4, e4, _⟩ := hS16.shape
  rw [e3] at hS12 ⊢
  rw [e4] at hS16 ⊢
  refine l_call0 rfl rfl rfl (crctail hS12) ?_
  intro v σ1 h1 hS2
  obtain ⟨A2, c2, rfl, _⟩ := hS2.shape
  refine l_nil ?_
  refine d_go (fun w hI => (hI).weaken (by assumption)) ?_
  refine d_br1 (i := 7) (by kernel_rfl) rfl ?_
  refine l_callv rfl rfl rfl (bequal hS2 (hS16.up h1)) ?_
  refine l_nil ?_
  refine d_go (fun w hI => (hI).weaken (by assumption)) ?_
  refine d_take 8 rfl (by kernel_rfl) rfl rfl (p_notd rfl) ?_
  refine d_done (by kernel_rfl) ?_
  refine t_ifd rfl (fun h2 => ?_) (fun h2 => ?_)
  · have e : openB b = ([], 4) := by rw [openB, if_neg (by omega), show b.length - 4 = m by omega, if_neg h2]
    rw [e]
    refine t_seq ?_
    refine t_region ?_
    refine l_p rfl rfl (p_assign rfl) ?_
    refine l_p rfl rfl (p_assign rfl) ?_
    refine l_nil ?_
    exact t_ret2 rfl rfl rfl fun w hI => ⟨σ1, h1, ⟨_, rfl, Sl.nil ..⟩, hI⟩
  have h2' := Decidable.not_not.1 h2
  have e : openB b = (b.take m, 0) := by rw [openB, if_neg (by omega), show b.length - 4 = m by omega, if_pos h2']
  rw [e]
  refine t_skip ?_
  refine t_seq ?_
  refine t_region ?_
  refine l_p rfl rfl (p_move rfl) ?_
  refine l_p rfl rfl (p_move rfl) ?_
  refine l_p rfl rfl (p_cuth _ (by exact rfl) (by exact rfl) (by exact rfl) (by omega)) ?_
  rw [e3]
  refine l_call1 rfl rfl rfl (bclone (hS12.up h1) (by simp; omega)) ?_
  rintro _ _ _ - ⟨rfl, A5, c5, rfl, rfl⟩
  refine l_p rfl rfl (p_assign rfl) ?_
  refine l_p rfl rfl (p_assign rfl) ?_
  refine l_nil ?_
  refine t_fzo .z fun σ2 h3 hS' => ?_
  exact t_ret2 rfl rfl rfl fun w hI => ⟨σ2, h1.trans h3, ⟨_, rfl, hS'⟩, hI⟩
theorem rnext (σ : Stb) (c : Nat) (b : UInt8) (hc : c < 4294967296) : SpV Tryd.prog 40 [u32 c, u8 b] σ (u32 (crcNext c b.toNat)) := by
  have hb := b.toNat_lt
  refine spv Tryd.func40 rfl (by kernel_rfl) rfl fun F => ?_
  refine t_seq ?_
  refine t_region ?_
  refine l_p rfl rfl (p_assign rfl) ?_
  refine l_nil ?_
  refine t_seq ?_
  refine t_seq ?_
  refine t_region ?_
  refine l_p rfl rfl (p_assign rfl) ?_
  refine l_nil ?_
  refine t_block ?_
  have hr : ∀ j, refK c b.toNat j < 4294967296 := fun j => by
    have h := refK_eq c b.toNat j
    have h1 : crcK (c ^^^ b.toNat) j < 4294967296 := by rw [crcK_eq]; exact crcN_lt j (Nat.xor_lt_two_pow (n := 32) hc (by omega))
    have h2 : b.toNat / 2 ^ j < 4294967296 := by have := Nat.div_le_self b.toNat (2 ^ j); omega
    have h3 : refK c b.toNat j = crcK (c ^^^ b.toNat) j ^^^ (b.toNat / 2 ^ j) := by rw [h, Nat.xor_assoc, Nat.xor_self, Nat.xor_zero]
    rw [h3]; exact Nat.xor_lt_two_pow (n := 32) h1 h2
  refine t_loop (ι := Nat) { E := fun j => [(1, u8 b), (0, u32 (refK c b.toNat j)), (5, i64 j)], S := fun _ => σ, M := fun _ => F, Φ := fun j => j ≤ 8 } (fun j => 8 - j) 0
    (by exact ⟨rfl, rfl, rfl, trivial⟩) (Nat.zero_le _) (fun w hI => hI) ?_
  intro j hj
  have hlt := hr j
  have hs : refK c b.toNat (j + 1) = refStep (refK c b.toNat j) (b.toNat / 2 ^ j % 2) := rfl
  have h8 : j = 8 → refK c b.toNat j = crcNext c b.toNat := by rintro rfl; exact refNext_eq c _ hb
  have hd : b.toNat / 2 ^ j < 256 := by have := Nat.div_le_self b.toNat (2 ^ j); omega
  have hv : (b.toNat : Int) / 2 ^ (j : Int).toNat = ((b.toNat / 2 ^ j : Nat) : Int) := by rw [Int.toNat_natCast, Int.natCast_ediv, Int.natCast_pow]; rfl
  dsimp only at hj ⊢
  generalize refK c b.toNat j = x at *
  generalize b.toNat / 2 ^ j = d at *
  refine t_seq ?_
  refine t_seq ?_
  refine t_region ?_
  refine l_p rfl rfl (p_move rfl) ?_
  refine l_p rfl rfl (p_lt rfl rfl) ?_
  refine l_nil ?_
  refine t_ifd rfl (fun h => ?_) (fun h => ?_)
  · refine t_skip ?_
    refine t_seq ?_
    refine t_block ?_
    refine t_seq ?_
    refine t_region ?_
    refine l_p rfl rfl (p_move rfl) ?_
    refine l_p rfl rfl (p_move rfl) ?_
    refine l_p rfl rfl (p_shr8 rfl rfl (by omega)) ?_
    refine l_p rfl rfl (p_convu32 (by exact rfl) (by omega)) ?_
    refine l_p rfl rfl (p_and132 rfl rfl (by omega)) ?_
    refine l_p rfl rfl (p_assign rfl) ?_
    refine l_nil ?_
    refine t_seq ?_
    refine t_region ?_
    refine l_p rfl rfl (p_move rfl) ?_
    refine l_p rfl rfl (p_and132 rfl rfl (by omega)) ?_
    refine l_p rfl rfl (p_move rfl) ?_
    refine l_p rfl rfl (p_xor32 rfl rfl (by omega)) ?_
    refine l_p rfl rfl (p_assign rfl) ?_
    refine l_nil ?_
    refine t_seq ?_
    refine t_region ?_
    refine l_p rfl rfl (p_move rfl) ?_
    refine l_p rfl rfl (p_quo32 rfl rfl (by omega)) ?_
    refine l_p rfl rfl (p_assign rfl) ?_
    refine l_nil ?_
    refine t_seq ?_
    refine t_region ?_
    refine l_p rfl rfl (p_move rfl) ?_
    refine l_p rfl rfl (p_eq rfl rfl) ?_
    refine l_nil ?_
    rw [hv]
    skip
    have hb2 : ((x : Int) % 2).toNat ^^^ ((d : Int) % 2).toNat = (x % 2) ^^^ (d % 2) := rfl
    rw [hb2]
    have hb3 : (x % 2) ^^^ (d % 2) < 2 := Nat.xor_lt_two_pow (n := 1) (by omega) (by omega)
    refine t_ifd rfl (fun h2 => ?_) (fun h2 => ?_)
    · refine t_region ?_
      refine l_p rfl rfl (p_move rfl) ?_
      refine l_p rfl rfl (p_xor32 rfl rfl (by omega)) ?_
      refine l_p rfl rfl (p_assign rfl) ?_
      refine l_nil ?_
      refine t_blk ?_
      refine t_region ?_
      refine l_p rfl rfl (p_move rfl) ?_
      refine l_p rfl rfl (p_add rfl rfl (by omega)) ?_
      refine l_p rfl rfl (p_assign rfl) ?_
      refine l_nil ?_
      exact t_round (j + 1) ⟨rfl, gi rfl (by rw [hs, refStep, if_pos (by omega)]; rfl), gi rfl (by omega), trivial⟩ (by omega) (by show 8 - (j + 1) < 8 - j; omega) (fun w hI => hI)
    · refine t_skip ?_
      refine t_blk ?_
      refine t_region ?_
      refine l_p rfl rfl (p_move rfl) ?_
      refine l_p rfl rfl (p_add rfl rfl (by omega)) ?_
      refine l_p rfl rfl (p_assign rfl) ?_
      refine l_nil ?_
      exact t_round (j + 1) ⟨rfl, gi rfl (by rw [hs, refStep, if_neg (by omega)]; rfl), gi rfl (by omega), trivial⟩ (by omega) (by show 8 - (j + 1) < 8 - j; omega) (fun w hI => hI)
  · have : j = 8 := by omega
    refine t_exit rfl ?_
    refine t_seq ?_
    refine t_region ?_
    refine l_p rfl rfl (p_move rfl) ?_
    refine l_p rfl rfl (p_assign rfl) ?_
    refine l_nil ?_
    exact t_ret1 rfl rfl fun w hI => ⟨by rw [h8 this], hI⟩
theorem rsum {σ : Stb} {A : Option Addr} {n0 c0 : Nat} {b : List UInt8} (hS : Sl σ 1 eu8 (.slice A n0 c0) b) : SpV Tryd.prog 23 [.slice A n0 c0] σ (u32 (crcSum b)) := by
  have hn := hS.len
  subst hn
  have hb := hS.bound
  refine spv Tryd.func23 rfl (by kernel_rfl) rfl fun F => ?_
  refine t_seq ?_
  refine t_region ?_
  refine l_p rfl rfl (p_assign rfl) ?_
  refine l_nil ?_
  refine t_seq ?_
  refine t_region ?_
  refine l_p rfl rfl (p_assign rfl) ?_
  refine l_nil ?_
  refine t_seq ?_
  refine t_seq ?_
  refine t_region ?_
  refine l_p rfl rfl (p_move rfl) ?_
  refine l_p rfl rfl (p_lensl (by exact rfl)) ?_
  refine l_p rfl rfl (p_move rfl) ?_
  refine l_nil ?_
  refine t_block ?_
  refine t_loop (ι := Nat) { E := fun j => [(3, u32 (crcMany 4294967295 (b.take j))), (6, .slice A b.length c0), (7, i64 b.length), (8, i64 j)], S := fun _ => σ, M := fun _ => F, Φ := fun j => j ≤ b.length } (fun j => b.length - j) 0
    (by exact ⟨rfl, rfl, rfl, rfl, trivial⟩) (Nat.zero_le _) (fun w hI => hI) ?_
  intro j hj
  have hlt := crcMany_lt (b.take j) (c := 4294967295) (by decide)
  dsimp only at hj ⊢
  refine t_seq ?_
  refine t_region ?_
  refine l_p rfl rfl (p_lt rfl rfl) ?_
  refine l_nil ?_
  refine t_seq ?_
  refine t_ifd rfl (fun h => ?_) (fun h => ?_)
  · have hj2 : j < b.length := by omega
    refine t_skip ?_
    refine t_seq ?_
    refine t_block ?_
    refine t_seq ?_
    refine t_region ?_
    refine l_p rfl rfl (p_ix _ (by exact rfl) (by exact rfl) (by exact rfl) (by omega) (Rds.ix (by assumption) (by omega))) ?_
    refine l_p rfl rfl (p_ld1 (by exact rfl) (Rds.of (Rds.ix (by assumption) (by omega)) (by exact rfl))) ?_
    refine l_p rfl rfl (p_assign rfl) ?_
    refine l_nil ?_
    refine t_region ?_
    refine l_p rfl rfl (p_move rfl) ?_
    refine l_p rfl rfl (p_move rfl) ?_
    refine l_callv rfl rfl rfl (rnext σ _ _ hlt) ?_
    refine l_p rfl rfl (p_assign rfl) ?_
    refine l_nil ?_
    refine t_blk ?_
    refine t_region ?_
    refine l_p rfl rfl (p_add rfl rfl (by omega)) ?_
    refine l_p rfl rfl (p_move rfl) ?_
    refine l_nil ?_
    exact t_round (j + 1) ⟨gi rfl (by rw [take_succ b j hj2, crcMany_snoc]), rfl, rfl, gi rfl (by omega), trivial⟩ (by omega) (by show b.length - (j + 1) < b.length - j; omega) (fun w hI => hI)
  · have : j = b.length := by omega
    subst this
    rw [List.take_length] at hlt ⊢
    refine t_exit rfl ?_
    refine t_seq ?_
    refine t_region ?_
    refine l_p rfl rfl (p_move rfl) ?_
    refine l_p rfl rfl (p_xor32 rfl rfl (by omega)) ?_
    refine l_p rfl rfl (p_assign rfl) ?_
    refine l_nil ?_
    exact t_ret1 rfl rfl fun w hI => ⟨rfl, hI⟩
theorem rseal {σ : Stb} {A : Option Addr} {n0 c0 : Nat} {b : List UInt8} (hS : Sl σ 1 eu8 (.slice A n0 c0) b) (hl : b.length ≤ 1000000000000) : Sp0 Tryd.prog 10 [.slice A n0 c0] σ fun v σ' => Sl σ' 1 eu8 v (sealB b) := by
  have hlt := crcSum_lt b
  refine sp0 Tryd.func10 rfl (by kernel_rfl) rfl fun F => ?_
  refine t_seq ?_
  refine t_region ?_
  refine l_p rfl rfl (p_assign rfl) ?_
  refine l_nil ?_
  refine t_seq ?_
  refine t_region ?_
  refine l_p rfl rfl (p_assign rfl) ?_
  refine l_nil ?_
  refine t_seq ?_
  refine t_region ?_
  refine l_p rfl rfl (p_move rfl) ?_
  refine l_p rfl rfl (p_move rfl) ?_
  refine l_own0 (α := UInt8) 1 eu8 5 ?_
  refine l_appu (xs := ([] : List UInt8)) b rfl rfl rfl rfl .z (Src.slu hS) rfl (by simp; omega) fun A' c' => ?_
  simp only [List.length_nil, Nat.zero_add, List.nil_append]
  refine l_p rfl rfl (p_assign rfl) ?_
  refine l_nil ?_
  refine t_seq ?_
  refine t_region ?_
  refine l_p rfl rfl (p_move rfl) ?_
  refine l_callv rfl rfl rfl (rsum hS) ?_
  refine l_p rfl rfl (p_assign rfl) ?_
  refine l_nil ?_
  refine t_seq ?_
  refine t_region ?_
  refine l_p rfl rfl (p_move rfl) ?_
  refine l_p rfl rfl (p_move rfl) ?_
  refine l_p rfl rfl (p_convbI (by exact rfl) (by omega)) ?_
  refine l_p rfl rfl (p_move rfl) ?_
  refine l_p rfl rfl (p_shr32 rfl rfl (by omega)) ?_
  refine l_p rfl rfl (p_convb (by exact rfl)) ?_
  refine l_p rfl rfl (p_move rfl) ?_
  refine l_p rfl rfl (p_shr32 rfl rfl (by omega)) ?_
  refine l_p rfl rfl (p_convb (by exact rfl)) ?_
  refine l_p rfl rfl (p_move rfl) ?_
  refine l_p rfl rfl (p_shr32 rfl rfl (by omega)) ?_
  refine l_p rfl rfl (p_convb (by exact rfl)) ?_
  refine l_bsl (by exact rfl) (by exact rfl) (by exact rfl) (by exact rfl) (by exact rfl) (by exact rfl) (by exact rfl) ?_; intro _
  refine l_appu (xs := b) (le4 (crcSum b)) rfl rfl rfl rfl (.s .z) (Src.bxu .z (by exact rfl) rfl) rfl (by rw [le4_len]; omega) fun A2 c2 => ?_
  refine l_p rfl rfl (p_assign rfl) ?_
  refine l_nil ?_
  refine t_fzo .z fun σ' hσ hS' => ?_
  exact t_ret1 rfl rfl fun w hI => ⟨σ', hσ, hS', hI.tail⟩
end Go.Proofs.YtbijponhndknlaaDoor
