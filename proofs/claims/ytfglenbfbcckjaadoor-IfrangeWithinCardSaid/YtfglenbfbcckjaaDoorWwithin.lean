/- Chapter 9: IfrangeWithin: the law's walk. -/
import Derived.Test.YtfglenbfbcckjaaDoorX7
import Derived.Test.YtfglenbfbcckjaaDoorWlaw9
set_option linter.unusedVariables false
set_option linter.unusedSimpArgs false
set_option maxRecDepth 20000
namespace Go.Proofs.YtfglenbfbcckjaaDoor
open Go.Sp
attribute [local irreducible] Go.Sp.Pr Go.Sp.Ws Go.Sp.Wl Go.Sp.Wq Go.Sp.Rds Go.Sp.Src
theorem rhas {σ : Stb} {A : Option Addr} {n0 cc : Nat} {l : List N2} (p : Int) (hS : Sl σ 2 esn (.slice A n0 cc) l) (hl : l.length ≤ 1000000) : SpV Tryd.prog 8 [.slice A n0 cc, i64 p] σ (.bool (hasN l p)) := by
  have hn0 := hS.len
  subst hn0
  refine spv Tryd.func8 rfl (by kernel_rfl) rfl fun F => ?_
  refine t_seq ?_
  refine t_region ?_
  refine l_p rfl rfl (p_assign rfl) ?_
  refine l_nil ?_
  refine t_seq ?_
  refine t_seq ?_
  refine t_region ?_
  refine l_p rfl rfl (p_move rfl) ?_
  refine l_p rfl rfl (p_lensl (by exact rfl)) ?_
  refine l_p rfl rfl (p_move rfl) ?_
  refine l_nil ?_
  refine t_block ?_
  refine t_loop (ι := Nat × List Res) { E := fun i => [(1, i64 p), (7, .slice A l.length cc), (8, i64 l.length), (9, i64 i.1)], S := fun _ => σ, M := fun i => i.2 ++ F, Φ := fun i => i.1 ≤ l.length ∧ hasN l p = hasN (l.drop i.1) p } (fun i => l.length - i.1) (0, [])
    (by exact ⟨rfl, rfl, rfl, rfl, trivial⟩) ⟨Nat.zero_le _, rfl⟩ (fun w hI => hI) ?_
  rintro ⟨i, R⟩ ⟨h1, h2⟩
  dsimp only at h1 h2 ⊢
  refine t_seq ?_
  refine t_region ?_
  refine l_p rfl rfl (p_lt rfl rfl) ?_
  refine l_nil ?_
  refine t_seq ?_
  refine t_ifd rfl (fun h5 => ?_) (fun h5 => ?_)
  · have hi : i < l.length := by omega
    rw [drop_cons l i hi] at h2
    refine t_skip ?_
    refine t_seq ?_
    refine t_block ?_
    refine t_seq ?_
    refine t_region ?_
    refine l_p rfl rfl (p_ix _ (by exact rfl) (by exact rfl) (by exact rfl) (by omega) (Rds.ix (by assumption) (by omega))) ?_
    refine l_p rfl rfl (p_ldn (by exact rfl) (Rds.ix (by assumption) (by omega)) (by exact rfl) (by exact rfl)) ?_
    refine l_alloc (by exact rfl) (by exact rfl) (by exact rfl) ?_; intro _
    refine l_sti rfl rfl rfl rfl rfl (by exact rfl) (by exact rfl) (by exact rfl) (by exact ⟨rfl, rfl⟩) ?_
    refine l_nil ?_
    refine t_seq ?_
    refine t_region ?_
    refine l_p rfl rfl (p_ldn (by exact rfl) Rds.bxi (by exact rfl) (by exact rfl)) ?_
    refine l_callv rfl rfl rfl (rspright σ l[i].1 l[i].2) ?_
    refine l_p rfl rfl (p_move rfl) ?_
    have h6' : rightN (l[i].1, l[i].2) = rightN l[i] := rfl
    rw [h6']
    cases h6 : rightN l[i]
    · refine l_skip rfl rfl ?_
      refine l_skip rfl rfl ?_
      refine l_skip rfl rfl ?_
      refine l_skip rfl rfl ?_
      refine l_p rfl rfl (p_pickf rfl rfl) ?_
      refine l_p rfl rfl (p_move rfl) ?_
      refine l_skip rfl rfl ?_
      refine l_skip rfl rfl ?_
      refine l_skip rfl rfl ?_
      refine l_skip rfl rfl ?_
      refine l_p rfl rfl (p_pickf rfl rfl) ?_
      refine l_nil ?_
      refine t_iff rfl ?_
      refine t_skip ?_
      refine t_blk ?_
      refine t_region ?_
      refine l_p rfl rfl (p_add rfl rfl (by omega)) ?_
      refine l_p rfl rfl (p_move rfl) ?_
      refine l_nil ?_
      exact t_round (i + 1, _ :: R) ⟨rfl, rfl, rfl, gi rfl (by omega), trivial⟩ ⟨by simp only; omega, by simp only; rw [h2, hasN, List.any_cons, h6]; rfl⟩ (by show l.length - (i + 1) < l.length - i; omega) (fun w hI => hI)
    · refine l_p rfl rfl (p_fa (by exact rfl) Rds.bxi) ?_
      refine l_p rfl rfl (p_ld1 (by exact rfl) Rds.bxi) ?_
      refine l_p rfl rfl (p_move rfl) ?_
      refine l_p rfl rfl (p_le rfl rfl) ?_
      refine l_p rfl rfl (p_pickt rfl rfl) ?_
      refine l_p rfl rfl (p_move rfl) ?_
      refine l_split 21 rfl (fun h7 => ?_) (fun h7 => ?_)
      · refine l_p rfl rfl (p_move rfl) ?_
        refine l_p rfl rfl (p_fa (by exact rfl) Rds.bxi) ?_
        refine l_p rfl rfl (p_ld1 (by exact rfl) (Rds.fld Rds.bxi (by exact rfl))) ?_
        refine l_p rfl rfl (p_lt rfl rfl) ?_
        refine l_p rfl rfl (p_pickt rfl rfl) ?_
        refine l_nil ?_
        refine t_ifd rfl (fun h8 => ?_) (fun h8 => ?_)
        · refine t_seq ?_
          refine t_region ?_
          refine l_p rfl rfl (p_assign rfl) ?_
          refine l_nil ?_
          exact t_ret1 rfl rfl fun w hI => ⟨by rw [h2, hasN, List.any_cons, h6]; simp [inN, h7, h8], (Inv.dropN (_ :: R) hI)⟩
        · refine t_skip ?_
          refine t_blk ?_
          refine t_region ?_
          refine l_p rfl rfl (p_add rfl rfl (by omega)) ?_
          refine l_p rfl rfl (p_move rfl) ?_
          refine l_nil ?_
          exact t_round (i + 1, _ :: R) ⟨rfl, rfl, rfl, gi rfl (by omega), trivial⟩ ⟨by simp only; omega, by simp only; rw [h2, hasN, List.any_cons, h6]; simp [inN, h8, hasN]⟩ (by show l.length - (i + 1) < l.length - i; omega) (fun w hI => hI)
      · refine l_skip rfl rfl ?_
        refine l_skip rfl rfl ?_
        refine l_skip rfl rfl ?_
        refine l_skip rfl rfl ?_
        refine l_p rfl rfl (p_pickf rfl rfl) ?_
        refine l_nil ?_
        refine t_iff rfl ?_
        refine t_skip ?_
        refine t_blk ?_
        refine t_region ?_
        refine l_p rfl rfl (p_add rfl rfl (by omega)) ?_
        refine l_p rfl rfl (p_move rfl) ?_
        refine l_nil ?_
        exact t_round (i + 1, _ :: R) ⟨rfl, rfl, rfl, gi rfl (by omega), trivial⟩ ⟨by simp only; omega, by simp only; rw [h2, hasN, List.any_cons, h6]; simp [inN, h7, hasN]⟩ (by show l.length - (i + 1) < l.length - i; omega) (fun w hI => hI)
  · have hn : i = l.length := by omega
    subst hn
    refine t_exit rfl ?_
    refine t_seq ?_
    refine t_region ?_
    refine l_p rfl rfl (p_assign rfl) ?_
    refine l_nil ?_
    exact t_ret1 rfl rfl fun w hI => ⟨by rw [h2]; simp [hasN], hI.dropN R⟩
theorem countP_succ {α : Type} (f : α → Bool) (l : List α) {i : Nat} (h : i < l.length) : (l.take (i + 1)).countP f = (l.take i).countP f + if f l[i] = true then 1 else 0 := by
  rw [take_succ l i h, List.countP_append, List.countP_singleton]
set_option maxHeartbeats 400000 in
theorem within_walk (σ : Stb) (header cond tag : List UInt8) (n p : Int) (hn : -9223372036854775808 ≤ n ∧ n ≤ 9223372036854775807) :
    Sp0 Tryd.prog 3 [st header, st cond, st tag, i64 n, i64 p] σ fun v _ => v = .bool true := by
  refine sp0 Tryd.func3 rfl (by kernel_rfl) rfl fun F => ?_
  refine t_seq ?_
  refine t_region ?_
  refine l_p rfl rfl (p_assign rfl) ?_
  refine l_nil ?_
  refine t_seq ?_
  refine t_seq ?_
  refine t_region ?_
  refine l_call0 rfl rfl rfl (awake_walk σ) ?_
  rintro _ σ0 hσ0 rfl
  have hret : ∀ w, Inv σ0 F w → ∃ σ', σ.le σ' ∧ Value.bool true = .bool true ∧ Inv σ' F w := fun w hI => ⟨σ0, hσ0, rfl, hI⟩
  refine l_p rfl rfl (p_nott rfl) ?_
  refine l_nil ?_
  refine t_iff rfl ?_
  refine t_skip ?_
  refine t_seq ?_
  refine t_seq ?_
  refine t_region ?_
  refine l_p rfl rfl (p_move rfl) ?_
  refine l_p rfl rfl (p_lens (by exact rfl)) ?_
  refine l_p rfl rfl (p_gt rfl rfl) ?_
  refine l_p rfl rfl (p_move rfl) ?_
  refine l_split 23 rfl (fun h => ?_) (fun g1 => ?_)
  · refine l_skip rfl rfl ?_
    refine l_skip rfl rfl ?_
    refine l_skip rfl rfl ?_
    refine l_p rfl rfl (p_pickt rfl rfl) ?_
    refine l_p rfl rfl (p_move rfl) ?_
    refine l_skip rfl rfl ?_
    refine l_skip rfl rfl ?_
    refine l_skip rfl rfl ?_
    refine l_p rfl rfl (p_pickt rfl rfl) ?_
    refine l_nil ?_
    refine t_ift rfl ?_
    refine t_seq ?_
    refine t_region ?_
    refine l_p rfl rfl (p_assign rfl) ?_
    refine l_nil ?_
    exact t_ret1 rfl rfl hret
  refine l_p rfl rfl (p_move rfl) ?_
  refine l_p rfl rfl (p_lens (by exact rfl)) ?_
  refine l_p rfl rfl (p_gt rfl rfl) ?_
  refine l_p rfl rfl (p_pickf rfl rfl) ?_
  refine l_p rfl rfl (p_move rfl) ?_
  refine l_split 28 rfl (fun h => ?_) (fun g2 => ?_)
  · refine l_skip rfl rfl ?_
    refine l_skip rfl rfl ?_
    refine l_skip rfl rfl ?_
    refine l_p rfl rfl (p_pickt rfl rfl) ?_
    refine l_nil ?_
    refine t_ift rfl ?_
    refine t_seq ?_
    refine t_region ?_
    refine l_p rfl rfl (p_assign rfl) ?_
    refine l_nil ?_
    exact t_ret1 rfl rfl hret
  refine l_p rfl rfl (p_move rfl) ?_
  refine l_p rfl rfl (p_lens (by exact rfl)) ?_
  refine l_p rfl rfl (p_gt rfl rfl) ?_
  refine l_p rfl rfl (p_pickf rfl rfl) ?_
  refine l_nil ?_
  refine t_ifd rfl (fun h => ?_) (fun g3 => ?_)
  · refine t_seq ?_
    refine t_region ?_
    refine l_p rfl rfl (p_assign rfl) ?_
    refine l_nil ?_
    exact t_ret1 rfl rfl hret
  clear hret
  refine t_skip ?_
  refine t_seq ?_
  refine t_region ?_
  refine l_p rfl rfl (p_move rfl) ?_
  refine l_p rfl rfl (p_move rfl) ?_
  refine l_p rfl rfl (p_move rfl) ?_
  refine l_p rfl rfl (p_move rfl) ?_
  refine l_call0 rfl rfl rfl (schoose σ0 header cond tag n (by omega) (by omega)) ?_
  rintro _ σ1 hσ1 ⟨status, sv, l, rfl, hS, hC⟩
  obtain ⟨A, cc, rfl⟩ : ∃ A c, sv = .slice A l.length c := by obtain ⟨⟨A, c, h, _⟩, _⟩ := hS; exact ⟨A, c, h⟩
  obtain ⟨hin, hlaw⟩ := within_law p hC
  have hb := hS.bound
  refine l_alloc (by exact rfl) (by exact rfl) (by exact rfl) ?_; intro _
  refine l_sti rfl rfl rfl rfl rfl (by exact rfl) (by exact rfl) (by exact rfl) (by exact ⟨rfl, rfl⟩) ?_
  refine l_nil ?_
  refine t_seq ?_
  refine t_region ?_
  refine l_p rfl rfl (p_assign rfl) ?_
  refine l_nil ?_
  refine t_seq ?_
  refine t_seq ?_
  refine t_region ?_
  refine l_p rfl rfl (p_fa (by exact rfl) Rds.bxi) ?_
  refine l_p rfl rfl (p_ld1 (by exact rfl) (Rds.fld Rds.bxi (by exact rfl))) ?_
  refine l_p rfl rfl (p_lensl (by exact rfl)) ?_
  refine l_p rfl rfl (p_move rfl) ?_
  refine l_nil ?_
  refine t_block ?_
  rename_i bc
  refine t_loop (ι := Nat × List Res) { E := fun i => [(0, st header), (3, i64 n), (4, i64 p), (11, .pointer (some ⟨bc, 0, none⟩)), (12, i64 ((l.take i.1).countP (inN p) : Nat)), (39, .slice A l.length cc), (40, i64 l.length), (41, i64 i.1)], S := fun _ => σ1, M := fun i => Bx bc [i64 status, .slice A l.length cc] 25 :: (i.2 ++ F), Φ := fun i => i.1 ≤ l.length } (fun i => l.length - i.1) (0, [])
    (by exact ⟨rfl, rfl, rfl, rfl, rfl, rfl, rfl, rfl, trivial⟩) (Nat.zero_le _) (fun w hI => hI) ?_
  rintro ⟨i, R⟩ h1
  dsimp only at h1 ⊢
  have hcl := List.countP_le_length (p := inN p) (l := l.take i)
  simp only [List.length_take] at hcl
  refine t_seq ?_
  refine t_region ?_
  refine l_p rfl rfl (p_lt rfl rfl) ?_
  refine l_nil ?_
  refine t_seq ?_
  refine t_ifd rfl (fun h5 => ?_) (fun h5 => ?_)
  · have hi : i < l.length := by omega
    obtain ⟨k1, k2⟩ := hin l[i] (List.getElem_mem hi)
    have hcs := countP_succ (inN p) l hi
    refine t_skip ?_
    refine t_seq ?_
    refine t_block ?_
    refine t_seq ?_
    refine t_region ?_
    refine l_p rfl rfl (p_ix _ (by exact rfl) (by exact rfl) (by exact rfl) (by omega) (Rds.ix (by assumption) (by omega))) ?_
    refine l_p rfl rfl (p_ldn (by exact rfl) (Rds.ix (by assumption) (by omega)) (by exact rfl) (by exact rfl)) ?_
    refine l_alloc (by exact rfl) (by exact rfl) (by exact rfl) ?_; intro _
    refine l_sti rfl rfl rfl rfl rfl (by exact rfl) (by exact rfl) (by exact rfl) (by exact ⟨rfl, rfl⟩) ?_
    refine l_nil ?_
    refine t_seq ?_
    refine t_seq ?_
    refine t_region ?_
    refine l_p rfl rfl (p_fa (by exact rfl) Rds.bxi) ?_
    refine l_p rfl rfl (p_ld1 (by exact rfl) Rds.bxi) ?_
    refine l_p rfl rfl (p_lt rfl rfl) ?_
    refine l_p rfl rfl (p_move rfl) ?_
    refine l_p rfl rfl (p_fa (by exact rfl) Rds.bxi) ?_
    refine l_p rfl rfl (p_ld1 (by exact rfl) Rds.bxi) ?_
    refine l_p rfl rfl (p_fa (by exact rfl) Rds.bxi) ?_
    refine l_p rfl rfl (p_ld1 (by exact rfl) (Rds.fld Rds.bxi (by exact rfl))) ?_
    refine l_p rfl rfl (p_ge rfl rfl) ?_
    refine l_p rfl rfl (p_pickf rfl rfl) ?_
    refine l_p rfl rfl (p_move rfl) ?_
    refine l_split 55 rfl (fun h => by omega) (fun _ => ?_)
    refine l_p rfl rfl (p_fa (by exact rfl) Rds.bxi) ?_
    refine l_p rfl rfl (p_ld1 (by exact rfl) (Rds.fld Rds.bxi (by exact rfl))) ?_
    refine l_p rfl rfl (p_move rfl) ?_
    refine l_p rfl rfl (p_gt rfl rfl) ?_
    refine l_p rfl rfl (p_pickf rfl rfl) ?_
    refine l_nil ?_
    refine t_ifd rfl (fun h => by omega) (fun _ => ?_)
    refine t_skip ?_
    refine t_seq ?_
    refine t_region ?_
    refine l_p rfl rfl (p_fa (by exact rfl) Rds.bxi) ?_
    refine l_p rfl rfl (p_ld1 (by exact rfl) Rds.bxi) ?_
    refine l_p rfl rfl (p_move rfl) ?_
    refine l_p rfl rfl (p_le rfl rfl) ?_
    refine l_p rfl rfl (p_move rfl) ?_
    refine l_split 65 rfl (fun g4 => ?_) (fun g4 => ?_)
    · refine l_p rfl rfl (p_move rfl) ?_
      refine l_p rfl rfl (p_fa (by exact rfl) Rds.bxi) ?_
      refine l_p rfl rfl (p_ld1 (by exact rfl) (Rds.fld Rds.bxi (by exact rfl))) ?_
      refine l_p rfl rfl (p_lt rfl rfl) ?_
      refine l_p rfl rfl (p_pickt rfl rfl) ?_
      refine l_nil ?_
      refine t_ifd rfl (fun g5 => ?_) (fun g5 => ?_)
      · rw [if_pos (by simp [inN, g4, g5])] at hcs
        refine t_region ?_
        refine l_p rfl rfl (p_move rfl) ?_
        refine l_p rfl rfl (p_add rfl rfl (by omega)) ?_
        refine l_p rfl rfl (p_assign rfl) ?_
        refine l_nil ?_
        refine t_blk ?_
        refine t_region ?_
        refine l_p rfl rfl (p_add rfl rfl (by omega)) ?_
        refine l_p rfl rfl (p_move rfl) ?_
        refine l_nil ?_
        exact t_round (i + 1, _ :: R) ⟨rfl, rfl, rfl, rfl, gi rfl (by rw [hcs]; omega), rfl, rfl, gi rfl (by omega), trivial⟩ (by simp only; omega) (by show l.length - (i + 1) < l.length - i; omega) (fun w hI => hI.perm (.swap ..))
      · rw [if_neg (by simp [inN, g5])] at hcs
        refine t_skip ?_
        refine t_blk ?_
        refine t_region ?_
        refine l_p rfl rfl (p_add rfl rfl (by omega)) ?_
        refine l_p rfl rfl (p_move rfl) ?_
        refine l_nil ?_
        exact t_round (i + 1, _ :: R) ⟨rfl, rfl, rfl, rfl, gi rfl (by rw [hcs]; omega), rfl, rfl, gi rfl (by omega), trivial⟩ (by simp only; omega) (by show l.length - (i + 1) < l.length - i; omega) (fun w hI => hI.perm (.swap ..))
    · rw [if_neg (by simp [inN, g4])] at hcs
      refine l_skip rfl rfl ?_
      refine l_skip rfl rfl ?_
      refine l_skip rfl rfl ?_
      refine l_skip rfl rfl ?_
      refine l_p rfl rfl (p_pickf rfl rfl) ?_
      refine l_nil ?_
      refine t_iff rfl ?_
      refine t_skip ?_
      refine t_blk ?_
      refine t_region ?_
      refine l_p rfl rfl (p_add rfl rfl (by omega)) ?_
      refine l_p rfl rfl (p_move rfl) ?_
      refine l_nil ?_
      exact t_round (i + 1, _ :: R) ⟨rfl, rfl, rfl, rfl, gi rfl (by rw [hcs]; omega), rfl, rfl, gi rfl (by omega), trivial⟩ (by simp only; omega) (by show l.length - (i + 1) < l.length - i; omega) (fun w hI => hI.perm (.swap ..))
  · have hn : i = l.length := by omega
    subst hn
    rw [List.take_length]
    generalize hk : l.countP (inN p) = k at *
    refine t_exit rfl ?_
    refine t_seq ?_
    refine t_region ?_
    refine l_p rfl rfl (p_move rfl) ?_
    refine l_call0 rfl rfl rfl (rspecs σ1 header (by omega)) ?_
    rintro _ σ2 hσ2 ⟨sv2, rfl, hS2⟩
    have hsl := specs_len header
    obtain ⟨A2, c2, rfl⟩ : ∃ A c, sv2 = .slice A (specs header).1.length c := by obtain ⟨⟨A, c, h, _⟩, _⟩ := hS2; exact ⟨A, c, h⟩
    refine l_p rfl rfl (p_move rfl) ?_
    refine l_p rfl rfl (p_ext rfl rfl) ?_
    refine l_p rfl rfl (p_ext rfl rfl) ?_
    refine l_p rfl rfl (p_assign rfl) ?_
    refine l_p rfl rfl (p_assign rfl) ?_
    refine l_nil ?_
    refine t_seq ?_
    refine t_region ?_
    refine l_p rfl rfl (p_move rfl) ?_
    refine l_p rfl rfl (p_move rfl) ?_
    refine l_call0 rfl rfl rfl (rresolve n ‹_› hS2 (by omega)) ?_
    rintro sv3 σ3 hσ3 hS3
    have hrl := resolve_len (specs header).1 n
    obtain ⟨A3, c3, rfl⟩ : ∃ A c, sv3 = .slice A (resolveI (specs header).1 n).length c := by obtain ⟨⟨A, c, h, _⟩, _⟩ := hS3; exact ⟨A, c, h⟩
    refine l_p rfl rfl (p_move rfl) ?_
    refine l_callv rfl rfl rfl (rhas p hS3 (by omega)) ?_
    have hret : ∀ w, Inv σ3 (Bx bc [i64 status, .slice A l.length cc] 25 :: (R ++ F)) w → ∃ σ', σ.le σ' ∧ Value.bool true = .bool true ∧ Inv σ' F w := fun w hI => ⟨σ3, ((hσ0.trans hσ1).trans hσ2).trans hσ3, rfl, Inv.dropN (_ :: R) hI⟩
    rcases hlaw with ⟨rfl, q1, q2, q3⟩ | ⟨rfl, rfl, q2, q3⟩ | ⟨rfl, rfl⟩
    · have q4 : 0 < l.length := List.length_pos_iff.2 q1
      have q5 : ((k : Int) = 1) ↔ hasN (resolveI (specs header).1 n) p = true := by rw [← q3]; omega
      refine l_p rfl rfl (p_assign rfl) ?_
      refine l_nil ?_
      refine t_seq ?_
      refine t_region ?_
      refine l_p rfl rfl (p_fa (by exact rfl) Rds.bxi) ?_
      refine l_p rfl rfl (p_ld1 (by exact rfl) Rds.bxi) ?_
      refine l_nil ?_
      refine t_block ?_
      refine t_seq ?_
      refine t_region ?_
      refine l_p rfl rfl (p_eq rfl rfl) ?_
      refine l_p rfl rfl (p_assign rfl) ?_
      refine l_nil ?_
      refine t_ift rfl ?_
      refine t_seq ?_
      refine t_region ?_
      refine l_p rfl rfl (p_fa (by exact rfl) Rds.bxi) ?_
      refine l_p rfl rfl (p_ld1 (by exact rfl) (Rds.fld Rds.bxi (by exact rfl))) ?_
      refine l_p rfl rfl (p_lensl (by exact rfl)) ?_
      refine l_p rfl rfl (p_gt rfl rfl) ?_
      refine l_p rfl rfl (p_move rfl) ?_
      refine l_split 101 rfl (fun _ => ?_) (fun h => by omega)
      refine l_p rfl rfl (p_move rfl) ?_
      refine l_p rfl rfl (p_le rfl rfl) ?_
      refine l_p rfl rfl (p_pickt rfl rfl) ?_
      refine l_p rfl rfl (p_move rfl) ?_
      refine l_split 105 rfl (fun _ => ?_) (fun h => by omega)
      refine l_p rfl rfl (p_move rfl) ?_
      refine l_p rfl rfl (p_eq rfl rfl) ?_
      refine l_p rfl rfl (p_move rfl) ?_
      refine l_p rfl rfl (p_beq rfl rfl) ?_
      refine l_p rfl rfl (p_pickt rfl rfl) ?_
      refine l_p rfl rfl (p_assign rfl) ?_
      refine l_nil ?_
      exact t_ret1 rfl rfl fun w hI => by
        obtain ⟨σ', h1, _, h2⟩ := hret w hI
        exact ⟨σ', h1, by simp [q5], h2⟩
    · have q4 : 0 < (specs header).1.length := List.length_pos_iff.2 q2
      refine l_p rfl rfl (p_assign rfl) ?_
      refine l_nil ?_
      refine t_seq ?_
      refine t_region ?_
      refine l_p rfl rfl (p_fa (by exact rfl) Rds.bxi) ?_
      refine l_p rfl rfl (p_ld1 (by exact rfl) Rds.bxi) ?_
      refine l_nil ?_
      refine t_block ?_
      refine t_seq ?_
      refine t_region ?_
      refine l_p rfl rfl (p_eq rfl rfl) ?_
      refine l_p rfl rfl (p_assign rfl) ?_
      refine l_nil ?_
      refine t_iff rfl ?_
      refine t_seq ?_
      refine t_region ?_
      refine l_p rfl rfl (p_eq rfl rfl) ?_
      refine l_p rfl rfl (p_assign rfl) ?_
      refine l_nil ?_
      refine t_ift rfl ?_
      refine t_seq ?_
      refine t_region ?_
      refine l_p rfl rfl (p_fa (by exact rfl) Rds.bxi) ?_
      refine l_p rfl rfl (p_ld1 (by exact rfl) (Rds.fld Rds.bxi (by exact rfl))) ?_
      refine l_p rfl rfl (p_lensl (by exact rfl)) ?_
      refine l_p rfl rfl (p_eq rfl rfl) ?_
      refine l_p rfl rfl (p_move rfl) ?_
      refine l_p rfl rfl (p_move rfl) ?_
      refine l_p rfl rfl (p_lensl (by exact rfl)) ?_
      refine l_p rfl rfl (p_gt rfl rfl) ?_
      refine l_p rfl rfl (p_pickt rfl rfl) ?_
      refine l_p rfl rfl (p_move rfl) ?_
      refine l_split 122 rfl (fun _ => ?_) (fun h => by omega)
      refine l_p rfl rfl (p_move rfl) ?_
      refine l_p rfl rfl (p_not rfl) ?_
      refine l_p rfl rfl (p_pickt rfl rfl) ?_
      refine l_p rfl rfl (p_assign rfl) ?_
      refine l_nil ?_
      rw [q3]
      skip
      exact t_ret1 rfl rfl hret
    · refine l_p rfl rfl (p_assign rfl) ?_
      refine l_nil ?_
      refine t_seq ?_
      refine t_region ?_
      refine l_p rfl rfl (p_fa (by exact rfl) Rds.bxi) ?_
      refine l_p rfl rfl (p_ld1 (by exact rfl) Rds.bxi) ?_
      refine l_nil ?_
      refine t_block ?_
      refine t_seq ?_
      refine t_region ?_
      refine l_p rfl rfl (p_eq rfl rfl) ?_
      refine l_p rfl rfl (p_assign rfl) ?_
      refine l_nil ?_
      refine t_iff rfl ?_
      refine t_seq ?_
      refine t_region ?_
      refine l_p rfl rfl (p_eq rfl rfl) ?_
      refine l_p rfl rfl (p_assign rfl) ?_
      refine l_nil ?_
      refine t_iff rfl ?_
      refine t_seq ?_
      refine t_region ?_
      refine l_p rfl rfl (p_fa (by exact rfl) Rds.bxi) ?_
      refine l_p rfl rfl (p_ld1 (by exact rfl) Rds.bxi) ?_
      refine l_p rfl rfl (p_eq rfl rfl) ?_
      refine l_p rfl rfl (p_move rfl) ?_
      refine l_p rfl rfl (p_fa (by exact rfl) Rds.bxi) ?_
      refine l_p rfl rfl (p_ld1 (by exact rfl) (Rds.fld Rds.bxi (by exact rfl))) ?_
      refine l_p rfl rfl (p_lensl (by exact rfl)) ?_
      refine l_p rfl rfl (p_eq rfl rfl) ?_
      refine l_p rfl rfl (p_pickt rfl rfl) ?_
      refine l_p rfl rfl (p_assign rfl) ?_
      refine l_nil ?_
      exact t_ret1 rfl rfl hret
end Go.Proofs.YtfglenbfbcckjaaDoor
