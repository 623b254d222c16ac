/- Chapter 9: the document's merging: walks. -/
import Derived.Test.YtfglenbfbcckjaaGreatDoorWref9
set_option linter.unusedVariables false
set_option linter.unusedSimpArgs false
set_option maxRecDepth 20000
namespace Go.Proofs.YtfglenbfbcckjaaGreatDoor
open Go.Sp
attribute [local irreducible] Go.Sp.Pr Go.Sp.Ws Go.Sp.Wl Go.Sp.Wq Go.Sp.Rds Go.Sp.Src
theorem slsub_len {A : Option Addr} {n cc : Nat} (sz i j : Nat) : ∃ A' c', slsub (.slice A n cc) sz i j = .slice A' (j - i) c' := ⟨_, _, rfl⟩
/-- Merging, from place i on. -/
def MInv (M l : List N2) (i : Nat) (out : List N2) : Prop := (out.drop (i + 1)).foldl (mergeStep 0) (out.take (i + 1)) = M ∧ (∀ x ∈ out, x.1 ≤ 4611686018427387903 ∧ x.2 ≤ 4611686018427387903) ∧ out.length ≤ l.length
set_option maxHeartbeats 800000 in
theorem rmerge {σ : Stb} {A : Option Addr} {n0 cc : Nat} {l : List N2} (hS : Sl σ 2 esn (.slice A n0 cc) l) (hl : l.length ≤ 1000000) : Sp0 Tryz.prog 22 [.slice A n0 cc, i64 0] σ fun v σ' => Sl σ' 2 esn v (refMerge l) := by
  have hn0 := hS.len
  subst hn0
  refine sp0 Tryz.func22 rfl (by kernel_rfl) rfl fun F => ?_
  refine t_seq ?_
  refine t_region ?_
  refine l_p rfl rfl (p_assign rfl) ?_
  refine l_nil ?_
  refine t_seq ?_
  refine t_seq ?_
  refine t_region ?_
  refine l_p rfl rfl (p_move rfl) ?_
  refine l_p rfl rfl (p_lt rfl rfl) ?_
  refine l_nil ?_
  refine t_iff rfl ?_
  refine t_skip ?_
  refine t_seq ?_
  refine t_region ?_
  refine l_p rfl rfl (p_assign rfl) ?_
  refine l_nil ?_
  refine t_seq ?_
  refine t_seq ?_
  refine t_region ?_
  refine l_p rfl rfl (p_move rfl) ?_
  refine l_p rfl rfl (p_lensl (by exact rfl)) ?_
  refine l_p rfl rfl (p_move rfl) ?_
  refine l_nil ?_
  refine t_block ?_
  refine t_loop (ι := Nat × Stb × Option Addr × Nat × List Res) { E := fun i => [(1, i64 0), (14, .slice A l.length cc), (15, i64 l.length), (16, i64 i.1), (5, .slice i.2.2.1 (isort (l.take i.1)).length i.2.2.2.1)], S := fun i => i.2.1, M := fun i => i.2.2.2.2 ++ F, Φ := fun i => i.1 ≤ l.length ∧ σ.le i.2.1 ∧ Sl i.2.1 2 esn (.slice i.2.2.1 (isort (l.take i.1)).length i.2.2.2.1) (isort (l.take i.1)) } (fun i => l.length - i.1) (0, σ, none, 0, [])
    (by exact ⟨rfl, rfl, rfl, rfl, rfl, trivial⟩) ⟨Nat.zero_le _, .refl σ, Sl.nil ..⟩ (fun w hI => hI) ?_
  rintro ⟨i, σ1, B, bc, R⟩ ⟨h1, hσ1, hSo⟩
  dsimp only at h1 hσ1 hSo ⊢
  have hil := isort_len (l.take i)
  simp only [List.length_take] at hil
  have hS1 := hS.up hσ1
  refine t_seq ?_
  refine t_region ?_
  refine l_p rfl rfl (p_lt rfl rfl) ?_
  refine l_nil ?_
  refine t_seq ?_
  refine t_ifd rfl (fun h5 => ?_) (fun h5 => ?_)
  · have hi : i < l.length := by omega
    have hst : isort (l.take (i + 1)) = if rightN l[i] = true then insN (isort (l.take i)) l[i] else isort (l.take i) := by rw [take_succ l i hi, isort_snoc]
    generalize hout : isort (l.take i) = out at *
    refine t_skip ?_
    refine t_seq ?_
    refine t_block ?_
    refine t_seq ?_
    refine t_region ?_
    refine l_p rfl rfl (p_ix _ (by exact rfl) (by exact rfl) (by exact rfl) (by omega) (Rds.ix (by assumption) (by omega))) ?_
    refine l_p rfl rfl (p_ldn (by exact rfl) (Rds.ix (by assumption) (by omega)) (by exact rfl) (by exact rfl)) ?_
    refine l_alloc (by exact rfl) (by exact rfl) (by exact rfl) ?_; intro _
    refine l_sti rfl rfl rfl rfl rfl (by exact rfl) (by exact rfl) (by exact rfl) (by exact ⟨rfl, rfl⟩) ?_
    refine l_nil ?_
    refine t_seq ?_
    refine t_seq ?_
    refine t_region ?_
    refine l_p rfl rfl (p_ldn (by exact rfl) Rds.bxi (by exact rfl) (by exact rfl)) ?_
    refine l_callv rfl rfl rfl (rspright σ1 l[i].1 l[i].2) ?_
    refine l_p rfl rfl (p_not rfl) ?_
    refine l_nil ?_
    refine t_if rfl (fun h6 => ?_) (fun h6 => ?_)
    · have h6' : rightN l[i] = false := by simpa using h6
      rw [if_neg (by simp [h6'])] at hst
      refine t_exit rfl ?_
      refine t_region ?_
      refine l_p rfl rfl (p_add rfl rfl (by omega)) ?_
      refine l_p rfl rfl (p_move rfl) ?_
      refine l_nil ?_
      exact t_round (i + 1, σ1, B, bc, _ :: R) ⟨rfl, rfl, rfl, gi rfl (by omega), gs rfl (by rw [hst]), trivial⟩ ⟨by simp only; omega, hσ1, by simp only; rw [hst]; exact hSo⟩ (by show l.length - (i + 1) < l.length - i; omega) (fun w hI => hI)
    · have h6' : rightN l[i] = true := by simpa using h6
      rw [if_pos h6'] at hst
      refine t_skip ?_
      refine t_seq ?_
      refine t_region ?_
      refine l_p rfl rfl (p_move rfl) ?_
      refine l_p rfl rfl (p_lensl (by exact rfl)) ?_
      refine l_p rfl rfl (p_assign rfl) ?_
      refine l_nil ?_
      refine t_seq ?_
      rename_i bs
      refine t_cut (ι := Unit) { E := fun _ => [(1, i64 0), (14, .slice A l.length cc), (15, i64 l.length), (16, i64 i), (5, .slice B out.length bc), (7, .pointer (some ⟨bs, 0, none⟩)), (8, i64 (posR out l[i] out.length))], S := fun _ => σ1, M := fun _ => Bx bs [i64 l[i].1, i64 l[i].2] 32 :: (R ++ F), Φ := fun _ => True } ?_ ?_
      · refine t_block ?_
        refine t_loop (ι := Nat) { E := fun k => [(1, i64 0), (14, .slice A l.length cc), (15, i64 l.length), (16, i64 i), (5, .slice B out.length bc), (7, .pointer (some ⟨bs, 0, none⟩)), (8, i64 k)], S := fun _ => σ1, M := fun _ => Bx bs [i64 l[i].1, i64 l[i].2] 32 :: (R ++ F), Φ := fun k => k ≤ out.length ∧ posR out l[i] out.length = posR out l[i] k } (fun k => k) out.length
          (by exact ⟨rfl, rfl, rfl, rfl, rfl, rfl, rfl, trivial⟩) ⟨Nat.le_refl _, rfl⟩ (fun w hI => hI) ?_
        rintro k ⟨hk1, hk2⟩
        dsimp only at hk1 hk2 ⊢
        refine t_seq ?_
        refine t_seq ?_
        refine t_draw (by kernel_rfl) ?_
        refine q_p rfl rfl (p_move rfl) ?_
        refine q_p rfl rfl (p_gt rfl rfl) ?_
        refine q_p rfl rfl (p_move rfl) ?_
        refine q_split 27 rfl (fun h7 => ?_) (fun h7 => ?_)
        · obtain ⟨m, rfl⟩ : ∃ m, k = m + 1 := ⟨k - 1, by omega⟩
          have hm : ((m + 1 : Nat) : Int) - 1 = (m : Int) := by omega
          have hml : m < out.length := by omega
          rw [posR] at hk2
          have hgd : (out.getD m (0, 0)) = out[m] := by simp [hml]
          rw [hgd] at hk2
          refine q_p rfl rfl (p_move rfl) ?_
          refine q_p rfl rfl (p_move rfl) ?_
          refine q_p rfl rfl (p_sub rfl rfl (by omega)) ?_
          simp only [hm]
          refine q_p rfl rfl (p_ix _ (by exact rfl) (by exact rfl) (by exact rfl) (by omega) (Rds.ix (by assumption) (by omega))) ?_
          refine q_p rfl rfl (p_fa (by exact rfl) (Rds.ix (by assumption) (by omega))) ?_
          refine q_p rfl rfl (p_ld1 (by exact rfl) (Rds.fld (Rds.ix (by assumption) (by omega)) (by exact rfl))) ?_
          refine q_p rfl rfl (p_fa (by exact rfl) Rds.bxi) ?_
          refine q_p rfl rfl (p_ld1 (by exact rfl) Rds.bxi) ?_
          refine q_p rfl rfl (p_gt rfl rfl) ?_
          refine q_p rfl rfl (p_pickt rfl rfl) ?_
          refine q_nil ?_
          refine t_ifd rfl (fun h8 => ?_) (fun h8 => ?_)
          · rw [if_pos (by omega)] at hk2
            refine t_skip ?_
            refine t_block ?_
            refine t_region ?_
            refine l_p rfl rfl (p_move rfl) ?_
            refine l_p rfl rfl (p_sub rfl rfl (by omega)) ?_
            refine l_p rfl rfl (p_assign rfl) ?_
            refine l_nil ?_
            refine t_blk ?_
            exact t_round m ⟨rfl, rfl, rfl, rfl, rfl, rfl, gi rfl (by omega), trivial⟩ ⟨by omega, hk2⟩ (Nat.lt_succ_self _) (fun w hI => hI)
          · rw [if_neg (by omega)] at hk2
            refine t_exit rfl ?_
            exact t_back () ⟨rfl, rfl, rfl, rfl, rfl, rfl, gi rfl (by rw [hk2]), trivial⟩ trivial (fun w hI => hI)
        · have hk0 : k = 0 := by omega
          subst hk0
          refine q_skip rfl rfl ?_
          refine q_skip rfl rfl ?_
          refine q_skip rfl rfl ?_
          refine q_skip rfl rfl ?_
          refine q_skip rfl rfl ?_
          refine q_skip rfl rfl ?_
          refine q_skip rfl rfl ?_
          refine q_skip rfl rfl ?_
          refine q_skip rfl rfl ?_
          refine q_p rfl rfl (p_pickf rfl rfl) ?_
          refine q_nil ?_
          refine t_iff rfl ?_
          refine t_exit rfl ?_
          exact t_back () ⟨rfl, rfl, rfl, rfl, rfl, rfl, gi rfl (by rw [hk2]; rfl), trivial⟩ trivial (fun w hI => hI)
      rintro ⟨⟩ -
      dsimp only
      have hpl := posR_le out l[i] out.length
      have hins : insN out l[i] = out.take (posR out l[i] out.length) ++ [l[i]] ++ out.drop (posR out l[i] out.length) := rfl
      generalize posR out l[i] out.length = p at *
      have hsb := hSo.sub (i := p) (j := out.length) hpl (Nat.le_refl _)
      rw [List.take_length] at hsb
      have hbc := hSo.cap
      skip
      refine t_drawd _ (fun w hI => hI) ?_
      refine d_take 0 rfl (by kernel_rfl) rfl rfl (p_move rfl) ?_
      refine d_take 1 rfl (by kernel_rfl) rfl rfl (p_move rfl) ?_
      refine d_take 2 rfl (by kernel_rfl) rfl rfl (p_move rfl) ?_
      refine d_take 3 rfl (by kernel_rfl) rfl rfl (p_cut3 _ _ (by exact rfl) (by exact rfl) (by exact rfl) (by exact rfl) (by exact rfl) (by omega) (by omega)) ?_
      refine d_take 4 rfl (by kernel_rfl) rfl rfl (p_ldn (by exact rfl) Rds.bxi (by exact rfl) (by exact rfl)) ?_
      refine d_take 6 rfl (by kernel_rfl) rfl rfl (p_move rfl) ?_
      refine d_take 7 rfl (by kernel_rfl) rfl rfl (p_move rfl) ?_
      refine d_take 8 rfl (by kernel_rfl) rfl rfl (p_cutl _ (by exact rfl) (by exact rfl) (by exact rfl) (by omega)) ?_
      refine d_br1 (i := 5) (by kernel_rfl) rfl ?_
      refine l_bsl (by exact rfl) (by exact rfl) (by exact rfl) (by exact rfl) (by exact rfl) (by exact rfl) (by exact rfl) ?_; intro _
      refine l_nil ?_
      refine d_go (fun w hI => hI.tail) ?_
      refine d_br1 (i := 9) (by kernel_rfl) rfl ?_
      refine l_ownb 2 esn [l[i]] 1 .z rfl (by exact rfl) (fun _ _ => rfl) (by simp) ?_
      have hsl : ∃ A' c', slsub (.slice B out.length bc) 2 p out.length = .slice A' (out.length - p) c' := slsub_len ..
      refine l_app (xs := [l[i]]) (enc := esn) (out.drop p) rfl rfl rfl rfl .z (Src.sl hsb) rfl (by simp) (by exact rfl) (flat_esn _) (ones_esn _) (by simp; omega) (by simp; omega) fun A1 c1 => ?_
      refine l_nil ?_
      refine d_go (fun w hI => hI.tail) ?_
      refine d_br1 (i := 10) (by kernel_rfl) rfl ?_
      refine l_apps (enc := esn) ([l[i]] ++ out.drop p) rfl rfl rfl rfl (hSo.first hpl) (Src.own .z (flat_esn _)) rfl rfl (by exact rfl) (flat_esn _) (by simp; omega) (by simp; omega) (by simp; omega) fun A2 c2 => ?_
      refine l_nil ?_
      refine d_go (fun w hI => hI.tail.tail) ?_
      refine d_take 11 rfl (by kernel_rfl) rfl rfl (p_assign rfl) ?_
      refine d_done (by kernel_rfl) ?_
      refine t_blk ?_
      refine t_region ?_
      refine l_p rfl rfl (p_add rfl rfl (by omega)) ?_
      refine l_p rfl rfl (p_move rfl) ?_
      refine l_nil ?_
      have hlen : (List.take p out).length + ([l[i]] ++ List.drop p out).length = (insN out l[i]).length := by rw [hins]; simp
      refine t_fzo .z fun σ2 hσ2 hS2 => ?_
      rw [hlen] at hS2
      exact t_round (i + 1, σ2, A2, c2, _ :: _ :: R) ⟨rfl, rfl, rfl, gi rfl (by omega), gs rfl (by rw [hst, hlen]), trivial⟩ ⟨by simp only; omega, hσ1.trans hσ2, by simp only; rw [hst, hins, List.append_assoc]; rw [hins, List.append_assoc] at hS2; exact hS2⟩ (by show l.length - (i + 1) < l.length - i; omega) (fun w hI => hI)
  · have hn : i = l.length := by omega
    subst hn
    rw [List.take_length] at hSo hil
    rw [List.take_length]
    have hM0 : MInv (refMerge l) l 0 (isort l) := by
      refine ⟨?_, fun x hx => by have := isort_right l x hx; simp [rightN] at this; omega, isort_len l⟩
      unfold refMerge mergeL
      cases isort l with
      | nil => rfl
      | cons x r => rfl
    generalize hg : isort l = out0 at *
    clear hg
    refine t_exit rfl ?_
    refine t_seq ?_
    refine t_seq ?_
    refine t_region ?_
    refine l_p rfl rfl (p_assign rfl) ?_
    refine l_nil ?_
    refine t_block ?_
    refine t_loop (ι := Nat × Stb × List N2 × Option Addr × Nat × List Res) { E := fun i => [(1, i64 0), (9, i64 i.1), (5, .slice i.2.2.2.1 i.2.2.1.length i.2.2.2.2.1)], S := fun i => i.2.1, M := fun i => i.2.2.2.2.2 ++ F, Φ := fun i => σ.le i.2.1 ∧ Sl i.2.1 2 esn (.slice i.2.2.2.1 i.2.2.1.length i.2.2.2.2.1) i.2.2.1 ∧ MInv (refMerge l) l i.1 i.2.2.1 ∧ i.1 ≤ i.2.2.1.length } (fun i => i.2.2.1.length - i.1) (0, σ1, out0, B, bc, R)
      (by exact ⟨rfl, rfl, rfl, trivial⟩) ⟨hσ1, hSo, hM0, Nat.zero_le _⟩ (fun w hI => hI) ?_
    rintro ⟨i, σ2, out, B, bc, R⟩ ⟨hσ2, hS2, hM, hio⟩
    dsimp only at hσ2 hS2 hM hio ⊢
    obtain ⟨hM1, hM2, hM3⟩ := hM
    have hbc := hS2.cap
    refine t_seq ?_
    refine t_seq ?_
    refine t_region ?_
    refine l_p rfl rfl (p_move rfl) ?_
    refine l_p rfl rfl (p_add rfl rfl (by omega)) ?_
    refine l_p rfl rfl (p_move rfl) ?_
    refine l_p rfl rfl (p_lensl (by exact rfl)) ?_
    refine l_p rfl rfl (p_lt rfl rfl) ?_
    refine l_nil ?_
    refine t_ifd rfl (fun h7 => ?_) (fun h7 => ?_)
    · have hi : i + 1 < out.length := by omega
      have e1 : ((i : Int) + 1) = ((i + 1 : Nat) : Int) := by omega
      refine t_skip ?_
      refine t_block ?_
      refine t_seq ?_
      refine t_cut (ι := Nat × Nat) { E := fun b => [(1, i64 0), (9, i64 i), (5, .slice B out.length bc), (10, .pointer (some ⟨b.1, 0, none⟩)), (11, .pointer (some ⟨b.2, 0, none⟩))], S := fun _ => σ2, M := fun b => Bx b.1 [i64 out[i].1, i64 out[i].2] 32 :: Bx b.2 [i64 out[i + 1].1, i64 out[i + 1].2] 32 :: (R ++ F), Φ := fun _ => True } ?_ ?_
      · refine t_drawd _ (fun w hI => hI) ?_
        refine d_take 0 rfl (by kernel_rfl) rfl rfl (p_move rfl) ?_
        refine d_take 1 rfl (by kernel_rfl) rfl rfl (p_move rfl) ?_
        refine d_take 2 rfl (by kernel_rfl) rfl rfl (p_ix _ (by exact rfl) (by exact rfl) (by exact rfl) (by omega) (Rds.ix (by assumption) (by omega))) ?_
        refine d_take 3 rfl (by kernel_rfl) rfl rfl (p_ldn (by exact rfl) (Rds.ix (by assumption) (by omega)) (by exact rfl) (by exact rfl)) ?_
        refine d_take 4 rfl (by kernel_rfl) rfl rfl (p_move rfl) ?_
        refine d_take 5 rfl (by kernel_rfl) rfl rfl (p_move rfl) ?_
        refine d_take 6 rfl (by kernel_rfl) rfl rfl (p_add rfl rfl (by omega)) ?_
        refine d_take 7 rfl (by kernel_rfl) rfl rfl (p_ix _ (by exact rfl) (by exact rfl) (by exact rfl) (by omega) (Rds.ix (by assumption) (by omega))) ?_
        refine d_take 8 rfl (by kernel_rfl) rfl rfl (p_ldn (by exact rfl) (Rds.ix (by assumption) (by omega)) (by exact rfl) (by exact rfl)) ?_
        refine d_br2 (i := 9) (i' := 10) (by kernel_rfl) rfl rfl ?_ ?_
        · refine l_alloc (by exact rfl) (by exact rfl) (by exact rfl) ?_; intro _
          refine l_nil ?_
          refine d_go (fun w hI => hI.tail) ?_
          refine d_br1 (i := 10) (by kernel_rfl) rfl ?_
          refine l_alloc (by exact rfl) (by exact rfl) (by exact rfl) ?_; intro _
          refine l_nil ?_
          refine d_go (fun w hI => hI.tail.tail) ?_
          refine d_br1 (i := 11) (by kernel_rfl) rfl ?_
          refine l_sti rfl rfl rfl rfl rfl (by exact rfl) (by exact rfl) (by exact rfl) (by exact ⟨rfl, rfl⟩) ?_
          refine l_nil ?_
          refine d_go (fun w hI => hI.tail.tail) ?_
          refine d_br1 (i := 12) (by kernel_rfl) rfl ?_
          refine l_sti rfl rfl rfl rfl rfl (by exact rfl) (by exact rfl) (by exact rfl) (by exact ⟨rfl, rfl⟩) ?_
          refine l_nil ?_
          refine d_go (fun w hI => hI.tail.tail) ?_
          refine d_done (by kernel_rfl) ?_
          exact t_back (_, _) ⟨rfl, rfl, rfl, rfl, rfl, trivial⟩ trivial (fun w hI => hI.perm (.swap ..))
        · refine l_alloc (by exact rfl) (by exact rfl) (by exact rfl) ?_; intro _
          refine l_nil ?_
          refine d_go (fun w hI => hI.tail) ?_
          refine d_br1 (i := 9) (by kernel_rfl) rfl ?_
          refine l_alloc (by exact rfl) (by exact rfl) (by exact rfl) ?_; intro _
          refine l_nil ?_
          refine d_go (fun w hI => hI.tail.tail) ?_
          refine d_br1 (i := 11) (by kernel_rfl) rfl ?_
          refine l_sti rfl rfl rfl rfl rfl (by exact rfl) (by exact rfl) (by exact rfl) (by exact ⟨rfl, rfl⟩) ?_
          refine l_nil ?_
          refine d_go (fun w hI => hI.tail.tail) ?_
          refine d_br1 (i := 12) (by kernel_rfl) rfl ?_
          refine l_sti rfl rfl rfl rfl rfl (by exact rfl) (by exact rfl) (by exact rfl) (by exact ⟨rfl, rfl⟩) ?_
          refine l_nil ?_
          refine d_go (fun w hI => hI.tail.tail) ?_
          refine d_done (by kernel_rfl) ?_
          exact t_back (_, _) ⟨rfl, rfl, rfl, rfl, rfl, trivial⟩ trivial (fun w hI => hI)
      rintro ⟨b1, b2⟩ -
      dsimp only
      have ha := hM2 out[i] (List.getElem_mem (by omega))
      have hb := hM2 out[i + 1] (List.getElem_mem (by omega))
      have ht1 : out.take (i + 1) = out.take i ++ [out[i]] := take_succ out i (by omega)
      have hd1 : out.drop (i + 1) = out[i + 1] :: out.drop (i + 2) := drop_cons out (i + 1) hi
      rw [hd1, List.foldl_cons] at hM1
      refine t_seq ?_
      refine t_seq ?_
      refine t_region ?_
      refine l_p rfl rfl (p_fa (by exact rfl) Rds.bxi) ?_
      refine l_p rfl rfl (p_ld1 (by exact rfl) Rds.bxi) ?_
      refine l_p rfl rfl (p_fa (by exact rfl) Rds.bxi) ?_
      refine l_p rfl rfl (p_ld1 (by exact rfl) (Rds.fld Rds.bxi (by exact rfl))) ?_
      refine l_p rfl rfl (p_sub rfl rfl (by omega)) ?_
      refine l_p rfl rfl (p_move rfl) ?_
      refine l_p rfl rfl (p_gt rfl rfl) ?_
      refine l_nil ?_
      refine t_ifd rfl (fun h8 => ?_) (fun h8 => ?_)
      · have ht2 : out.take (i + 2) = out.take (i + 1) ++ [out[i + 1]] := take_succ out (i + 1) (by omega)
        rw [ht1, mergeStep_out 0 _ _ _ (by omega), ← ht1, ← ht2] at hM1
        refine t_seq ?_
        refine t_region ?_
        refine l_p rfl rfl (p_move rfl) ?_
        refine l_p rfl rfl (p_add rfl rfl (by omega)) ?_
        refine l_p rfl rfl (p_assign rfl) ?_
        refine l_nil ?_
        refine t_exit rfl ?_
        exact t_round (i + 1, σ2, out, B, bc, _ :: _ :: R) ⟨rfl, gi rfl (by omega), rfl, trivial⟩ ⟨hσ2, hS2, ⟨hM1, hM2, hM3⟩, by simp only; omega⟩ (by show out.length - (i + 1) < out.length - i; omega) (fun w hI => hI)
      · rw [ht1, mergeStep_in 0 _ _ _ (by omega)] at hM1
        refine t_skip ?_
        refine t_seq ?_
        skip
        refine t_seq ?_
        refine t_region ?_
        refine l_p rfl rfl (p_fa (by exact rfl) Rds.bxi) ?_
        refine l_p rfl rfl (p_ld1 (by exact rfl) (Rds.fld Rds.bxi (by exact rfl))) ?_
        refine l_p rfl rfl (p_fa (by exact rfl) Rds.bxi) ?_
        refine l_p rfl rfl (p_ld1 (by exact rfl) (Rds.fld Rds.bxi (by exact rfl))) ?_
        refine l_p rfl rfl (p_gt rfl rfl) ?_
        refine l_nil ?_
        refine t_cut (ι := Unit) { E := fun b => [(1, i64 0), (9, i64 i), (5, .slice B out.length bc), (10, .pointer (some ⟨b1, 0, none⟩))], S := fun _ => σ2, M := fun b => Bx b1 [i64 out[i].1, i64 (max out[i].2 out[i + 1].2 : Nat)] 32 :: Bx b2 [i64 out[i + 1].1, i64 out[i + 1].2] 32 :: (R ++ F), Φ := fun _ => True } ?_ ?_
        · refine t_ifd rfl (fun h9 => ?_) (fun h9 => ?_)
          · have e : max out[i].2 out[i + 1].2 = out[i + 1].2 := by omega
            rw [e]
            refine t_region ?_
            refine l_p rfl rfl (p_fa (by exact rfl) Rds.bxi) ?_
            refine l_p rfl rfl (p_ld1 (by exact rfl) (Rds.fld Rds.bxi (by exact rfl))) ?_
            refine l_p rfl rfl (p_fa (by exact rfl) Rds.bxi) ?_
            refine l_sti rfl rfl rfl rfl rfl (by exact rfl) (by exact rfl) (by exact rfl) (by exact ⟨rfl, rfl⟩) ?_
            refine l_nil ?_
            exact t_back () ⟨rfl, rfl, rfl, rfl, trivial⟩ trivial (fun w hI => hI)
          · have e : max out[i].2 out[i + 1].2 = out[i].2 := by omega
            rw [e]
            refine t_skip ?_
            exact t_back () ⟨rfl, rfl, rfl, rfl, trivial⟩ trivial (fun w hI => hI)
        rintro ⟨⟩ -
        dsimp only
        generalize hmx : max out[i].2 out[i + 1].2 = mx at *
        have hsb := hS2.sub (i := i + 2) (j := out.length) (by omega) (Nat.le_refl _)
        rw [List.take_length] at hsb
        skip
        refine t_drawd _ (fun w hI => hI) ?_
        refine d_take 0 rfl (by kernel_rfl) rfl rfl (p_move rfl) ?_
        refine d_take 1 rfl (by kernel_rfl) rfl rfl (p_move rfl) ?_
        refine d_take 2 rfl (by kernel_rfl) rfl rfl (p_move rfl) ?_
        refine d_take 3 rfl (by kernel_rfl) rfl rfl (p_cut3 _ _ (by exact rfl) (by exact rfl) (by exact rfl) (by exact rfl) (by exact rfl) (by omega) (by omega)) ?_
        refine d_take 4 rfl (by kernel_rfl) rfl rfl (p_ldn (by exact rfl) Rds.bxi (by exact rfl) (by exact rfl)) ?_
        refine d_take 7 rfl (by kernel_rfl) rfl rfl (p_move rfl) ?_
        refine d_take 8 rfl (by kernel_rfl) rfl rfl (p_move rfl) ?_
        refine d_take 9 rfl (by kernel_rfl) rfl rfl (p_add rfl rfl (by omega)) ?_
        refine d_take 10 rfl (by kernel_rfl) rfl rfl (p_cutl (i + 2) rfl rfl (by omega) (by omega)) ?_
        refine d_br1 (i := 5) (by kernel_rfl) rfl ?_
        refine l_bsl (by exact rfl) (by exact rfl) (by exact rfl) (by exact rfl) (by exact rfl) (by exact rfl) (by exact rfl) ?_; intro _
        refine l_nil ?_
        refine d_go (fun w hI => hI.tail) ?_
        refine d_br1 (i := 6) (by kernel_rfl) rfl ?_
        refine l_ownb 2 esn [(out[i].1, mx)] 1 .z rfl (by exact rfl) (fun _ _ => rfl) (by simp) ?_
        refine l_apps (enc := esn) [(out[i].1, mx)] rfl rfl rfl rfl (hS2.first (j := i) (by omega)) (Src.own .z (flat_esn _)) rfl rfl (by exact rfl) (flat_esn _) (by simp; omega) (by simp; omega) (by simp; omega) fun A1 c1 => ?_
        refine l_nil ?_
        refine d_go (fun w hI => hI.tail.tail) ?_
        refine d_br1 (i := 11) (by kernel_rfl) rfl ?_
        refine l_app (enc := esn) (out.drop (i + 2)) rfl rfl rfl rfl .z (Src.sl hsb) rfl (by simp) (by exact rfl) (flat_esn _) (ones_esn _) (by simp; omega) (by simp; omega) fun A2 c2 => ?_
        refine l_nil ?_
        refine d_go (fun w hI => hI.tail.tail) ?_
        refine d_take 12 rfl (by kernel_rfl) rfl rfl (p_assign rfl) ?_
        refine d_done (by kernel_rfl) ?_
        refine t_blk ?_
        refine t_fzo .z fun σ3 hσ3 hS3 => ?_
        have hol : (out.take i ++ [(out[i].1, mx)] ++ out.drop (i + 2)).length = out.length - 1 := by simp; omega
        have hlen : (out.take i ++ [(out[i].1, mx)]).length + (out.drop (i + 2)).length = (out.take i ++ [(out[i].1, mx)] ++ out.drop (i + 2)).length := by simp; omega
        rw [hlen] at hS3
        have hti : (out.take i ++ [(out[i].1, mx)]).length = i + 1 := by simp; omega
        have hol2 : (out.take i ++ [(out[i].1, mx)] ++ out.drop (i + 2)).length ≤ l.length := by omega
        have hol3 : i ≤ (out.take i ++ [(out[i].1, mx)] ++ out.drop (i + 2)).length := by omega
        have hol4 : (out.take i ++ [(out[i].1, mx)] ++ out.drop (i + 2)).length - i < out.length - i := by omega
        have hM4 : ∀ x ∈ out.take i ++ [(out[i].1, mx)] ++ out.drop (i + 2), x.1 ≤ 4611686018427387903 ∧ x.2 ≤ 4611686018427387903 := fun x hx => by
          rcases List.mem_append.1 hx with hx | hx
          · rcases List.mem_append.1 hx with hx | hx
            · exact hM2 x (List.mem_of_mem_take hx)
            · simp at hx; subst hx; simp only; omega
          · exact hM2 x (List.mem_of_mem_drop hx)
        have hM5 : ((out.take i ++ [(out[i].1, mx)] ++ out.drop (i + 2)).drop (i + 1)).foldl (mergeStep 0) ((out.take i ++ [(out[i].1, mx)] ++ out.drop (i + 2)).take (i + 1)) = refMerge l := by
          rw [List.take_append_of_le_length (by omega), List.take_of_length_le (by omega), List.drop_append_of_le_length (by omega), List.drop_of_length_le (by omega)]
          exact hM1
        exact t_round (i, σ3, _, A2, c2, _ :: _ :: _ :: R) ⟨rfl, rfl, gs rfl hlen, trivial⟩ ⟨hσ2.trans hσ3, hS3, ⟨hM5, hM4, hol2⟩, hol3⟩ hol4 (fun w hI => hI)
    · rw [List.take_of_length_le (by omega), List.drop_of_length_le (by omega)] at hM1
      simp only [List.foldl_nil] at hM1
      refine t_exit rfl ?_
      refine t_seq ?_
      refine t_region ?_
      refine l_p rfl rfl (p_move rfl) ?_
      refine l_p rfl rfl (p_assign rfl) ?_
      refine l_nil ?_
      exact t_ret1 rfl rfl fun w hI => ⟨σ2, hσ2, by rw [← hM1]; exact hS2, hI.dropN R⟩
end Go.Proofs.YtfglenbfbcckjaaGreatDoor
