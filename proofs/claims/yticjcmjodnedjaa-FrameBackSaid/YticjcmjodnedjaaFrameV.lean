/-
  The contract of the reference's Take.
-/
import Derived.Test.YticjcmjodnedjaaFrameU
namespace Go.Proofs.Yticjcmjodnedjaa
open Go.RowKit
set_option linter.unusedVariables false

theorem i64_two (p q : UInt8) : bits .or .i64 (wrap64 (wrap64 (p.toNat : Int) * 256)) (wrap64 (q.toNat : Int)) = (num [p, q] : Nat) := by
  have hp := p.toNat_lt
  have hq := q.toNat_lt
  rw [show wrap64 (wrap64 (p.toNat : Int) * 256) = ((p.toNat * 256 : Nat) : Int) by unfold wrap64; omega, show wrap64 (q.toNat : Int) = ((q.toNat : Nat) : Int) by unfold wrap64; omega]
  have hx : p.toNat * 256 ||| q.toNat < 2 ^ 64 := Nat.or_lt_two_pow (by omega) (by omega)
  have hj := nat_join 8 (p.toNat * 256) q.toNat (by omega) (by omega)
  show IntKind.i64.wrap ((BitVec.ofInt 64 ((p.toNat * 256 : Nat) : Int) ||| BitVec.ofInt 64 ((q.toNat : Nat) : Int)).toNat : Int) = _
  rw [BitVec.toNat_or, ofInt_u64 _ (by omega), ofInt_u64 _ (by omega), hj]
  have : num [p, q] = p.toNat * 256 + q.toNat := by simp [num]
  rw [this]
  exact IntWalk.i64_in _ (by omega)

set_option maxHeartbeats 3200000 in
theorem rTake_any (w : World) (G : List Nat) (A : Option Addr) (m c : Nat) (bs : List UInt8) (h : RdB w G (.slice A m c) bs) :
    Calls Try.prog 48 #[.slice A m c] w fun e w' => ∃ v, e = .returned (.tuple #[.agg #[.int .i64 (takeF bs).1.kind, .int .i64 (takeF bs).1.ver, v], .int .i64 (takeF bs).2.1, .int .i64 (takeF bs).2.2]) ∧ New w 5 1 v (takeF bs).1.body.length (u8s (takeF bs).1.body) w' := by
  have hm := h.len
  have H := Lib.hid h
  have Hm := Lib.hid hm.1
  have hcm := hm.2.2.1
  have hmc := hm.2.1
  unfold maxLen at hcm
  clear h hm
  by_cases h16 : m < 16
  · have ht : takeF bs = (default, 0, 2) := by unfold takeF; rw [if_pos (by rw [Hm.out]; exact h16)]
    rw [ht]
    clear ht
    go_enter Try.func48, Try.ntmps48
    go_wp2
    have hb := (Blk.new w 59 #[.int .i64 0, .int .i64 0, .slice none 0 0]).alloc (.cells #[.int .i64 0, .int .i64 0, .slice none 0 0] 59)
    have r1 := hb.cell 0
    have r2 := hb.cell 1
    have r3 := hb.cell 2
    simp only [List.getElem?_toArray, List.getElem?_cons_zero, List.getElem?_cons_succ] at r1 r2 r3
    clear hb
    refine bodyPost_ret (by simp [results, Try.results48, go_sem, r1, r2, r3]; rfl) rfl ?_
    exact ⟨_, rfl, Own.nil _ _ _, ((Kept.refl _ _).alloc _).alloc _, by simp [rowOf, Value.ownBlock]⟩
  · have h16' : 16 ≤ m := by omega
    clear h16
    obtain ⟨m4, k1, v1, n2, c4, s4, rest, hbs, l1, l2, l3, l4, l5, l6, ht⟩ := take_parts bs (by rw [Hm.out]; omega)
    rw [ht]
    obtain ⟨a0, a1, a2, a3, rfl⟩ : ∃ a0 a1 a2 a3, m4 = [a0, a1, a2, a3] := by
      rcases m4 with _ | ⟨a0, _ | ⟨a1, _ | ⟨a2, _ | ⟨a3, _ | ⟨_, _⟩⟩⟩⟩⟩ <;> simp at l1
      exact ⟨_, _, _, _, rfl⟩
    obtain ⟨xk, rfl⟩ : ∃ x, k1 = [x] := List.length_eq_one_iff.1 l2
    obtain ⟨xv, rfl⟩ : ∃ x, v1 = [x] := List.length_eq_one_iff.1 l3
    obtain ⟨p, q, rfl⟩ : ∃ p q, n2 = [p, q] := by
      rcases n2 with _ | ⟨p, _ | ⟨q, _ | ⟨_, _⟩⟩⟩ <;> simp at l4
      exact ⟨_, _, rfl⟩
    obtain ⟨c0, c1, c2, c3, rfl⟩ : ∃ a0 a1 a2 a3, c4 = [a0, a1, a2, a3] := by
      rcases c4 with _ | ⟨a0, _ | ⟨a1, _ | ⟨a2, _ | ⟨a3, _ | ⟨_, _⟩⟩⟩⟩⟩ <;> simp at l5
      exact ⟨_, _, _, _, rfl⟩
    obtain ⟨s0, s1, s2, s3, rfl⟩ : ∃ a0 a1 a2 a3, s4 = [a0, a1, a2, a3] := by
      rcases s4 with _ | ⟨a0, _ | ⟨a1, _ | ⟨a2, _ | ⟨a3, _ | ⟨_, _⟩⟩⟩⟩⟩ <;> simp at l6
      exact ⟨_, _, _, _, rfl⟩
    simp only [List.cons_append, List.nil_append] at hbs
    clear l1 l2 l3 l4 l5 l6 ht
    have hrl : rest.length + 16 = m := by rw [← Hm.out, hbs]; simp
    obtain ⟨g, o, rfl, hc⟩ := (H.out.kept (((Kept.refl [] w).alloc (.cells #[.int .i64 0, .int .i64 0, .slice none 0 0] 59)).alloc (.cells #[.int .i64 0, .int .i64 0, .slice none 0 0] 59)) (by simp)).rd (by rw [hbs]; simp [u8s])
    rw [hbs] at hc
    have hc4 := hc 4 (.int .u8 xk.toNat) (by simp [u8s, u8v])
    have hc5 := hc 5 (.int .u8 xv.toNat) (by simp [u8s, u8v])
    have hc6 := hc 6 (.int .u8 p.toNat) (by simp [u8s, u8v])
    have hc7 := hc 7 (.int .u8 q.toNat) (by simp [u8s, u8v])
    have Hbs := Lib.hid hbs
    have Hrl := Lib.hid hrl
    clear hc hbs hrl
    go_enter Try.func48, Try.ntmps48
    go_wp2
    go_quiet (fail)
    rw [i64_two]
    have hn2 : num [p, q] < 65536 := by have := num_lt [p, q]; simpa using this
    generalize hN : num [p, q] = N at *
    have HN := Lib.hid hN
    clear hN
    have Hkq := Lib.hid (show ∀ n, Kept [] w (((w.alloc (.cells #[.int .i64 0, .int .i64 0, .slice none 0 0] 59)).alloc (.cells #[.int .i64 0, .int .i64 0, .slice none 0 0] 59)).drewN n) from fun n => (((Kept.refl [] w).alloc _).alloc _).drewN n)
    have Hbz := Lib.hid (show ∀ n, Blk (((w.alloc (.cells #[.int .i64 0, .int .i64 0, .slice none 0 0] 59)).alloc (.cells #[.int .i64 0, .int .i64 0, .slice none 0 0] 59)).drewN n) w.heap.size 59 #[.int .i64 0, .int .i64 0, .slice none 0 0] from fun n => ((Blk.new w 59 #[.int .i64 0, .int .i64 0, .slice none 0 0]).alloc _).kept ((Kept.refl [] _).drewN n) (by simp))
    have Hby := Lib.hid (show ∀ n, Blk (((w.alloc (.cells #[.int .i64 0, .int .i64 0, .slice none 0 0] 59)).alloc (.cells #[.int .i64 0, .int .i64 0, .slice none 0 0] 59)).drewN n) (w.heap.size + 1) 59 #[.int .i64 0, .int .i64 0, .slice none 0 0] from fun n => by
      have h1 := Blk.new (w.alloc (.cells #[.int .i64 0, .int .i64 0, .slice none 0 0] 59)) 59 #[.int .i64 0, .int .i64 0, .slice none 0 0]
      rw [World.size_alloc] at h1
      exact h1.kept ((Kept.refl [] _).drewN n) (by simp))
    have hall : ∀ n, RdB (((w.alloc (.cells #[.int .i64 0, .int .i64 0, .slice none 0 0] 59)).alloc (.cells #[.int .i64 0, .int .i64 0, .slice none 0 0] 59)).drewN n) G (.slice (some ⟨g, o, none⟩) m c) bs := fun n => H.out.kept (Hkq.out n) (by simp)
    have Hc8 := Lib.hid (show ∀ n, RdB (((w.alloc (.cells #[.int .i64 0, .int .i64 0, .slice none 0 0] 59)).alloc (.cells #[.int .i64 0, .int .i64 0, .slice none 0 0] 59)).drewN n) G (.slice (some ⟨g, o, none⟩) 8 c) ([a0, a1, a2, a3] ++ ([xk] ++ ([xv] ++ [p, q]))) from fun n => by
      have h1 := (hall n).upto 8 (by omega)
      rw [Hbs.out] at h1
      exact h1)
    have Hu8 := Lib.hid (show ∀ n, RdB (((w.alloc (.cells #[.int .i64 0, .int .i64 0, .slice none 0 0] 59)).alloc (.cells #[.int .i64 0, .int .i64 0, .slice none 0 0] 59)).drewN n) G (.slice (some ⟨g, o + 8, none⟩) (m - 8) (c - 8)) (c0 :: c1 :: c2 :: c3 :: (s0 :: s1 :: s2 :: s3 :: rest)) from fun n => by
      have h1 := (hall n).drop 8 (by omega)
      rw [Hbs.out] at h1
      exact h1)
    have Hu12 := Lib.hid (show ∀ n, RdB (((w.alloc (.cells #[.int .i64 0, .int .i64 0, .slice none 0 0] 59)).alloc (.cells #[.int .i64 0, .int .i64 0, .slice none 0 0] 59)).drewN n) G (.slice (some ⟨g, o + 12, none⟩) (m - 12) (c - 12)) (s0 :: s1 :: s2 :: s3 :: rest) from fun n => by
      have h1 := (hall n).drop 12 (by omega)
      rw [Hbs.out] at h1
      exact h1)
    have Hr16 := Lib.hid (show ∀ n, RdB (((w.alloc (.cells #[.int .i64 0, .int .i64 0, .slice none 0 0] 59)).alloc (.cells #[.int .i64 0, .int .i64 0, .slice none 0 0] 59)).drewN n) G (.slice (some ⟨g, o + 16, none⟩) (m - 16) (c - 16)) rest from fun n => by
      have h1 := (hall n).drop 16 (by omega)
      rw [Hbs.out] at h1
      exact h1)
    clear hall
    have hs5 := run_str ((H.out.kept (Hkq.out nq) (by simp)).upto 4 (by omega))
    rw [Hbs.out, show List.take 4 (a0 :: a1 :: a2 :: a3 :: xk :: xv :: p :: q :: c0 :: c1 :: c2 :: c3 :: s0 :: s1 :: s2 :: s3 :: rest) = [a0, a1, a2, a3] from rfl] at hs5
    have hts := strOf_toList [a0, a1, a2, a3]
    by_cases g1 : [a0, a1, a2, a3] = [103, 111, 105, 116]
    · have g1' : ([a0, a1, a2, a3] == [103, 111, 105, 116]) = true := by rw [g1]; rfl
      have G1 := Lib.hid g1
      clear g1
      go_wp2
      clear hs5
      have Kq := Lib.hid (Hkq.out nq)
      have Bz := Lib.hid (Hbz.out nq)
      have By := Lib.hid (Hby.out nq)
      have U8 := Lib.hid (Hu8.out nq)
      have C8 := Lib.hid (Hc8.out nq)
      have U12 := Lib.hid (Hu12.out nq)
      have R16 := Lib.hid (Hr16.out nq)
      clear Hkq Hbz Hby Hu8 Hc8 Hu12 Hr16 hc4 hc5 hc6 hc7
      generalize ((w.alloc (.cells #[.int .i64 0, .int .i64 0, .slice none 0 0] 59)).alloc (.cells #[.int .i64 0, .int .i64 0, .slice none 0 0] 59)).drewN nq = W3 at *
      have y1 : (8 : Int) ≤ (m : Int) := by omega
      have y2 : (m : Int) ≤ (c : Int) := by omega
      have y3 : (8 : Int) ≤ (c : Int) := by omega
      have y4 : ¬ ((c : Int) = 8) := by omega
      have y6 : (8 : Int) < (c : Int) := by omega
      have z1 : ¬ c = 8 := by omega
      have z3 : (c == 8) = false := by simp [z1]
      have z7 : ¬ (c - 8 = 0) := by omega
      have z5 : 8 ≤ m := by omega
      go_quiet ((first
        | (go_at_call 61; exact Calls.quiet_of (ru32_any _ _ _ _ _ _ _ _ _ _ (U8.out.kept ((Kept.refl [] _).drewN _) (by simp))))
        | (go_at_call 59; exact Calls.quiet_of_same ((rCrc_any _ _ _ _ _ _ (C8.out.kept ((Kept.refl [] _).drewN _) (by simp))).mono fun _ _ ⟨a, b⟩ => ⟨a, b.symm⟩))))
      have Kq4 := Lib.hid (Kq.out.drewN nq)
      have Bz4 := Lib.hid (Bz.out.drewN nq)
      have By4 := Lib.hid (By.out.drewN nq)
      have U12' := Lib.hid (U12.out.kept ((Kept.refl [] _).drewN nq) (by simp))
      have R16' := Lib.hid (R16.out.kept ((Kept.refl [] _).drewN nq) (by simp))
      clear Kq Bz By U8 C8 U12 R16
      generalize W3.drewN nq = W4 at *
      have hy0 := By4.out.cell 0
      have hy1 := By4.out.cell 1
      have hy2 := By4.out.cell 2
      have hz0 := Bz4.out.cell 0
      have hz1 := Bz4.out.cell 1
      have hz2 := Bz4.out.cell 2
      have hzf0 := Bz4.out.frozen 0
      have hzf1 := Bz4.out.frozen 1
      have hzf2 := Bz4.out.frozen 2
      have hlt4 := By4.out.lt
      simp only [List.getElem?_toArray, List.getElem?_cons_zero, List.getElem?_cons_succ] at hy0 hy1 hy2 hz0 hz1 hz2
      by_cases g2 : num [c0, c1, c2, c3] = crc [a0, a1, a2, a3, xk, xv, p, q]
      · have g2' : (((num [c0, c1, c2, c3] : Nat) : Int) != ((crc [a0, a1, a2, a3, xk, xv, p, q] : Nat) : Int)) = false := by simp; omega
        have G2 := Lib.hid g2
        clear g2
        by_cases g3 : 4096 < N
        · have Hp := Lib.hid (show takeP [a0, a1, a2, a3] [xk] [xv] [p, q] [c0, c1, c2, c3] [s0, s1, s2, s3] rest = (default, 0, 4) by unfold takeP; rw [if_neg (by simp [G1.out]), if_neg (by simp [G2.out]), if_pos (by rw [HN.out]; exact g3)])
          go_wp2
          obtain ⟨r1, r2, r3⟩ := Bz4.out.cells3 (.int .i64 0) (.int .i64 0) (.slice none 0 0)
          refine bodyPost_ret (by simp [results, Try.results48, go_sem, r1, r2, r3]; rfl) rfl ?_
          rw [Hp.out]
          exact ⟨_, rfl, Own.nil _ _ _, Kq4.out.cells3 (Nat.le_refl _) _ _ _, by simp [rowOf, Value.ownBlock]⟩
        · by_cases g4 : m < N + 16
          · have Hp := Lib.hid (show takeP [a0, a1, a2, a3] [xk] [xv] [p, q] [c0, c1, c2, c3] [s0, s1, s2, s3] rest = (default, 0, 2) by unfold takeP; rw [if_neg (by simp [G1.out]), if_neg (by simp [G2.out]), if_neg (by rw [HN.out]; exact g3), if_pos (by rw [HN.out]; have := Hrl.out; omega)])
            go_wp2
            obtain ⟨r1, r2, r3⟩ := Bz4.out.cells3 (.int .i64 0) (.int .i64 0) (.slice none 0 0)
            refine bodyPost_ret (by simp [results, Try.results48, go_sem, r1, r2, r3]; rfl) rfl ?_
            rw [Hp.out]
            exact ⟨_, rfl, Own.nil _ _ _, Kq4.out.cells3 (Nat.le_refl _) _ _ _, by simp [rowOf, Value.ownBlock]⟩
          · have Hp5 := Lib.hid (show num [s0, s1, s2, s3] ≠ crc (rest.take N) → takeP [a0, a1, a2, a3] [xk] [xv] [p, q] [c0, c1, c2, c3] [s0, s1, s2, s3] rest = (default, 0, 5) from fun g5 => by
              unfold takeP
              rw [HN.out, if_neg (by simp [G1.out]), if_neg (by simp [G2.out]), if_neg g3, if_neg (by have := Hrl.out; omega), if_pos g5])
            have Hp6 := Lib.hid (show num [s0, s1, s2, s3] = crc (rest.take N) → takeP [a0, a1, a2, a3] [xk] [xv] [p, q] [c0, c1, c2, c3] [s0, s1, s2, s3] rest = (⟨(xk.toNat : Nat), (xv.toNat : Nat), rest.take N⟩, 16 + N, 0) from fun g5 => by
              unfold takeP
              rw [HN.out, if_neg (by simp [G1.out]), if_neg (by simp [G2.out]), if_neg g3, if_neg (by have := Hrl.out; omega), if_neg (by simp [g5])]
              simp [num])
            have HB0 := Lib.hid (show ∀ n, RdB (W4.drewN n) G (.slice (if c = 16 then some ⟨g, o, none⟩ else some ⟨g, o + 16, none⟩) N (c - 16)) (rest.take N) from fun n => by
              by_cases hc : c = 16
              · have h1 := Hrl.out
                have h2 : N = 0 := by omega
                have h3 : rest = [] := List.eq_nil_of_length_eq_zero (by omega)
                rw [if_pos hc, h2, h3]
                exact ⟨_, 0, _, rfl, rfl, by omega, by unfold maxLen; omega, Rd.nil _ _, by simp, by simp⟩
              · have h1 := (R16'.out.upto N (by omega)).kept ((Kept.refl [] _).drewN n) (by simp)
                rw [if_neg hc]
                exact h1)
            have htl : (rest.take N).length = N := by rw [List.length_take]; have := Hrl.out; omega
            have Htl := Lib.hid htl
            clear htl
            generalize rest.take N = L at *
            by_cases hc16 : c = 16
            · subst hc16
              have HB := Lib.hid (show ∀ n, RdB (W4.drewN n) G (.slice (some ⟨g, o, none⟩) N 0) L from fun n => by simpa using HB0.out n)
              have hw16 : IntKind.i64.wrap (16 + (N : Int)) = 16 + N := IntWalk.i64_in _ (by omega)
              go_wp2
              go_quiet ((first
                | (go_at_call 61; exact Calls.quiet_of (ru32_any _ _ _ _ _ _ _ _ _ _ (U12'.out.kept ((Kept.refl [] _).drewN _) (by simp))))
                | (go_at_call 59; exact Calls.quiet_of_same ((rCrc_any _ _ _ _ _ _ (HB.out _)).mono fun _ _ ⟨a, b⟩ => ⟨a, b.symm⟩))))
              have Kq5 := Lib.hid (Kq4.out.drewN nq)
              have Bz5 := Lib.hid (Bz4.out.drewN nq)
              have By5 := Lib.hid (By4.out.drewN nq)
              have HB5 := Lib.hid (HB.out nq)
              clear HB0 Kq4 Bz4 By4 U12' R16' HB hy0 hy1 hy2 hz0 hz1 hz2 hzf0 hzf1 hzf2 hlt4
              generalize W4.drewN nq = W5 at *
              have hy0 := By5.out.cell 0
              have hy1 := By5.out.cell 1
              have hy2 := By5.out.cell 2
              have hlt5 := By5.out.lt
              simp only [List.getElem?_toArray, List.getElem?_cons_zero, List.getElem?_cons_succ] at hy0 hy1 hy2
              by_cases g5 : num [s0, s1, s2, s3] = crc L
              · have g5' : (((num [s0, s1, s2, s3] : Nat) : Int) != ((crc L : Nat) : Int)) = false := by simp; omega
                have Hp := Lib.hid (Hp6.out g5)
                clear g5 Hp5 Hp6
                have hz0 := Bz5.out.cell 0
                have hz1 := Bz5.out.cell 1
                have hz2 := Bz5.out.cell 2
                have hzf0 := Bz5.out.frozen 0
                have hzf1 := Bz5.out.frozen 1
                have hzf2 := Bz5.out.frozen 2
                simp only [List.getElem?_toArray, List.getElem?_cons_zero, List.getElem?_cons_succ] at hz0 hz1 hz2
                obtain ⟨h54, h55⟩ : W5.cell? ⟨g, o + 4, none⟩ = some (.int .u8 xk.toNat) ∧ W5.cell? ⟨g, o + 5, none⟩ = some (.int .u8 xv.toNat) := by
                  have hr := (H.out.kept Kq5.out (by simp)).rd
                  rw [Hbs.out] at hr
                  obtain ⟨g', o', he, hc⟩ := hr (by simp [u8s])
                  injection he with he
                  injection he with e1 e2
                  subst e1 e2
                  exact ⟨hc 4 _ (by simp [u8s, u8v]), hc 5 _ (by simp [u8s, u8v])⟩
                have hgs : g < w.heap.size := by
                  have hr := H.out.rd
                  rw [Hbs.out] at hr
                  exact hr.lt (by simp [u8s]) g (by simp [addrOf])
                have hgn1 : ¬ g = w.heap.size := by omega
                have hgn2 : ¬ w.heap.size = g := by omega
                have i4 : (4 : Int) < (m : Int) := by omega
                have i5 : (5 : Int) < (m : Int) := by omega
                have i6 : (0 : Int) ≤ 16 + (N : Int) := by omega
                have i7 : (16 : Int) ≤ 16 + (N : Int) := by omega
                have i8 : 16 + (N : Int) ≤ 16 := by omega
                have i11 : (N : Int) ≤ 0 := by omega
                have i12 : ((N : Int) = 0) = True := by simp; omega
                have i13 : N ≤ 0 := by omega
                have i14 : (m : Int) ≤ 16 := by omega
                have i9 : (16 + (N : Int)).toNat = 16 + N := by omega
                have i10 : (16 + (N : Int)).toNat - 16 = N := by omega
                have hwk : IntKind.i64.wrap (xk.toNat : Int) = xk.toNat := IntWalk.i64_in _ (by have := xk.toNat_lt; omega)
                have hwv : IntKind.i64.wrap (xv.toNat : Int) = xv.toNat := IntWalk.i64_in _ (by have := xv.toNat_lt; omega)
                go_wp2
                go_region_held3 (fun w' => w'.cell? ⟨g, o + 4, none⟩ = some (.int .u8 xk.toNat) ∧ w'.cell? ⟨g, o + 5, none⟩ = some (.int .u8 xv.toNat))
                  (first | go_keep | exact ⟨hq4, hq5⟩)
                  ((refine step_app _ rfl (.const (.slice none 0 0)) (.tmp 70) 24 rfl elem_u8 (by rfl) (Own.nil _ _ _) (by rfl) HB5.out.rd.drew (by rw [u8s_len, Htl.out, Nat.mul_one]) (u8s_one _) (by unfold maxLen; omega) (by omega) ?_
                    intro v6 w6 ho6 hk6 hr6
                    have hk6 := (Kept.refl [] W5).drew.trans hk6 (by simp [rowOf, Value.ownBlock])
                    have hb6 := Bz5.out.kept hk6 (by simp)
                    have hq0 := hb6.cell 0
                    have hq1 := hb6.cell 1
                    have hq2 := hb6.cell 2
                    have hqf0 := hb6.frozen 0
                    have hqf1 := hb6.frozen 1
                    have hqf2 := hb6.frozen 2
                    simp only [List.getElem?_toArray, List.getElem?_cons_zero, List.getElem?_cons_succ] at hq0 hq1 hq2
                    have hq4 := (hk6.cell (p := ⟨g, o + 4, none⟩) (Nat.lt_of_lt_of_le hgs (Nat.le_trans (Nat.le_succ _) (Nat.le_of_lt hlt5))) (by simp)).trans h54
                    have hq5 := (hk6.cell (p := ⟨g, o + 5, none⟩) (Nat.lt_of_lt_of_le hgs (Nat.le_trans (Nat.le_succ _) (Nat.le_of_lt hlt5))) (by simp)).trans h55
                    have Ho6 := Lib.hid ho6
                    have Hk6 := Lib.hid hk6
                    have Hr6 := Lib.hid hr6
                    have Hb6 := Lib.hid hb6
                    clear ho6 hk6 hr6 hb6
                    obtain ⟨A6, n6, c6, rfl⟩ := Ho6.out.form'))
                go_wp2
                obtain ⟨r1, r2, r3⟩ := Hb6.out.cells3 (.int .i64 (xk.toNat : Nat)) (.int .i64 (xv.toNat : Nat)) (.slice A6 n6 c6)
                refine bodyPost_ret (by simp [results, Try.results48, go_sem, r1, r2, r3]; rfl) rfl ?_
                rw [Hp.out]
                refine ⟨.slice A6 n6 c6, by simp, ?_⟩
                show New w 5 1 (.slice A6 n6 c6) L.length (u8s L) _
                have hg : ∀ k ∈ rowOf (.slice A6 n6 c6), w.heap.size + 1 ≤ k := fun k hk => by
                  rcases Hr6.out k hk with h8 | h8
                  · simp [rowOf, Value.ownBlock] at h8
                  · exact Nat.le_trans (Nat.le_of_lt hlt5) h8
                have ho : Own w6 5 1 (.slice A6 n6 c6) L.length (u8s L) := by
                  have := Ho6.out
                  rw [show 0 + N = L.length by rw [Htl.out]; omega] at this
                  simpa using this
                refine ⟨ho.kept (((((Kept.refl [w.heap.size] w6).setCell (p := ⟨w.heap.size, 0, none⟩) (.inl (by simp)) (.int .i64 (xk.toNat : Nat))).setCell (p := ⟨w.heap.size, 1, none⟩) (.inl (by simp)) (.int .i64 (xv.toNat : Nat))).setCell (p := ⟨w.heap.size, 2, none⟩) (.inl (by simp)) (.slice A6 n6 c6))) (fun k hk hm => ?_), (Kq5.out.trans Hk6.out (by simp)).cells3 (Nat.le_refl _) _ _ _, fun k hk => ?_⟩
                · have := hg k hk
                  simp at hm
                  omega
                · have := hg k hk
                  omega
              · have g5' : (((num [s0, s1, s2, s3] : Nat) : Int) != ((crc L : Nat) : Int)) = true := by simp; omega
                have Hp := Lib.hid (Hp5.out g5)
                clear g5 Hp5 Hp6
                have hz0 := Bz5.out.cell 0
                have hz1 := Bz5.out.cell 1
                have hz2 := Bz5.out.cell 2
                have hzf0 := Bz5.out.frozen 0
                have hzf1 := Bz5.out.frozen 1
                have hzf2 := Bz5.out.frozen 2
                simp only [List.getElem?_toArray, List.getElem?_cons_zero, List.getElem?_cons_succ] at hz0 hz1 hz2
                go_wp2
                obtain ⟨r1, r2, r3⟩ := Bz5.out.cells3 (.int .i64 0) (.int .i64 0) (.slice none 0 0)
                refine bodyPost_ret (by simp [results, Try.results48, go_sem, r1, r2, r3]; rfl) rfl ?_
                rw [Hp.out]
                exact ⟨_, rfl, Own.nil _ _ _, Kq5.out.cells3 (Nat.le_refl _) _ _ _, by simp [rowOf, Value.ownBlock]⟩
            · have HB := Lib.hid (show ∀ n, RdB (W4.drewN n) G (.slice (some ⟨g, o + 16, none⟩) N (c - 16)) L from fun n => by simpa [hc16] using HB0.out n)
              have hw16 : IntKind.i64.wrap (16 + (N : Int)) = 16 + N := IntWalk.i64_in _ (by omega)
              go_wp2
              go_quiet ((first
                | (go_at_call 61; exact Calls.quiet_of (ru32_any _ _ _ _ _ _ _ _ _ _ (U12'.out.kept ((Kept.refl [] _).drewN _) (by simp))))
                | (go_at_call 59; exact Calls.quiet_of_same ((rCrc_any _ _ _ _ _ _ (HB.out _)).mono fun _ _ ⟨a, b⟩ => ⟨a, b.symm⟩))))
              have Kq5 := Lib.hid (Kq4.out.drewN nq)
              have Bz5 := Lib.hid (Bz4.out.drewN nq)
              have By5 := Lib.hid (By4.out.drewN nq)
              have HB5 := Lib.hid (HB.out nq)
              clear HB0 Kq4 Bz4 By4 U12' R16' HB hy0 hy1 hy2 hz0 hz1 hz2 hzf0 hzf1 hzf2 hlt4
              generalize W4.drewN nq = W5 at *
              have hy0 := By5.out.cell 0
              have hy1 := By5.out.cell 1
              have hy2 := By5.out.cell 2
              have hlt5 := By5.out.lt
              simp only [List.getElem?_toArray, List.getElem?_cons_zero, List.getElem?_cons_succ] at hy0 hy1 hy2
              by_cases g5 : num [s0, s1, s2, s3] = crc L
              · have g5' : (((num [s0, s1, s2, s3] : Nat) : Int) != ((crc L : Nat) : Int)) = false := by simp; omega
                have Hp := Lib.hid (Hp6.out g5)
                clear g5 Hp5 Hp6
                have hz0 := Bz5.out.cell 0
                have hz1 := Bz5.out.cell 1
                have hz2 := Bz5.out.cell 2
                have hzf0 := Bz5.out.frozen 0
                have hzf1 := Bz5.out.frozen 1
                have hzf2 := Bz5.out.frozen 2
                simp only [List.getElem?_toArray, List.getElem?_cons_zero, List.getElem?_cons_succ] at hz0 hz1 hz2
                obtain ⟨h54, h55⟩ : W5.cell? ⟨g, o + 4, none⟩ = some (.int .u8 xk.toNat) ∧ W5.cell? ⟨g, o + 5, none⟩ = some (.int .u8 xv.toNat) := by
                  have hr := (H.out.kept Kq5.out (by simp)).rd
                  rw [Hbs.out] at hr
                  obtain ⟨g', o', he, hc⟩ := hr (by simp [u8s])
                  injection he with he
                  injection he with e1 e2
                  subst e1 e2
                  exact ⟨hc 4 _ (by simp [u8s, u8v]), hc 5 _ (by simp [u8s, u8v])⟩
                have hgs : g < w.heap.size := by
                  have hr := H.out.rd
                  rw [Hbs.out] at hr
                  exact hr.lt (by simp [u8s]) g (by simp [addrOf])
                have hgn1 : ¬ g = w.heap.size := by omega
                have hgn2 : ¬ w.heap.size = g := by omega
                have i4 : (4 : Int) < (m : Int) := by omega
                have i5 : (5 : Int) < (m : Int) := by omega
                have i6 : (0 : Int) ≤ 16 + (N : Int) := by omega
                have i7 : (16 : Int) ≤ 16 + (N : Int) := by omega
                have i8 : 16 + (N : Int) ≤ (c : Int) := by omega
                have i9 : (16 + (N : Int)).toNat = 16 + N := by omega
                have i10 : (16 + (N : Int)).toNat - 16 = N := by omega
                have hwk : IntKind.i64.wrap (xk.toNat : Int) = xk.toNat := IntWalk.i64_in _ (by have := xk.toNat_lt; omega)
                have hwv : IntKind.i64.wrap (xv.toNat : Int) = xv.toNat := IntWalk.i64_in _ (by have := xv.toNat_lt; omega)
                go_wp2
                go_region_held3 (fun w' => w'.cell? ⟨g, o + 4, none⟩ = some (.int .u8 xk.toNat) ∧ w'.cell? ⟨g, o + 5, none⟩ = some (.int .u8 xv.toNat))
                  (first | go_keep | exact ⟨hq4, hq5⟩)
                  ((refine step_app _ rfl (.const (.slice none 0 0)) (.tmp 70) 24 rfl elem_u8 (by rfl) (Own.nil _ _ _) (by rfl) HB5.out.rd.drew (by rw [u8s_len, Htl.out, Nat.mul_one]) (u8s_one _) (by unfold maxLen; omega) (by omega) ?_
                    intro v6 w6 ho6 hk6 hr6
                    have hk6 := (Kept.refl [] W5).drew.trans hk6 (by simp [rowOf, Value.ownBlock])
                    have hb6 := Bz5.out.kept hk6 (by simp)
                    have hq0 := hb6.cell 0
                    have hq1 := hb6.cell 1
                    have hq2 := hb6.cell 2
                    have hqf0 := hb6.frozen 0
                    have hqf1 := hb6.frozen 1
                    have hqf2 := hb6.frozen 2
                    simp only [List.getElem?_toArray, List.getElem?_cons_zero, List.getElem?_cons_succ] at hq0 hq1 hq2
                    have hq4 := (hk6.cell (p := ⟨g, o + 4, none⟩) (Nat.lt_of_lt_of_le hgs (Nat.le_trans (Nat.le_succ _) (Nat.le_of_lt hlt5))) (by simp)).trans h54
                    have hq5 := (hk6.cell (p := ⟨g, o + 5, none⟩) (Nat.lt_of_lt_of_le hgs (Nat.le_trans (Nat.le_succ _) (Nat.le_of_lt hlt5))) (by simp)).trans h55
                    have Ho6 := Lib.hid ho6
                    have Hk6 := Lib.hid hk6
                    have Hr6 := Lib.hid hr6
                    have Hb6 := Lib.hid hb6
                    clear ho6 hk6 hr6 hb6
                    obtain ⟨A6, n6, c6, rfl⟩ := Ho6.out.form'))
                go_wp2
                obtain ⟨r1, r2, r3⟩ := Hb6.out.cells3 (.int .i64 (xk.toNat : Nat)) (.int .i64 (xv.toNat : Nat)) (.slice A6 n6 c6)
                refine bodyPost_ret (by simp [results, Try.results48, go_sem, r1, r2, r3]; rfl) rfl ?_
                rw [Hp.out]
                refine ⟨.slice A6 n6 c6, by simp, ?_⟩
                show New w 5 1 (.slice A6 n6 c6) L.length (u8s L) _
                have hg : ∀ k ∈ rowOf (.slice A6 n6 c6), w.heap.size + 1 ≤ k := fun k hk => by
                  rcases Hr6.out k hk with h8 | h8
                  · simp [rowOf, Value.ownBlock] at h8
                  · exact Nat.le_trans (Nat.le_of_lt hlt5) h8
                have ho : Own w6 5 1 (.slice A6 n6 c6) L.length (u8s L) := by
                  have := Ho6.out
                  rw [show 0 + N = L.length by rw [Htl.out]; omega] at this
                  simpa using this
                refine ⟨ho.kept (((((Kept.refl [w.heap.size] w6).setCell (p := ⟨w.heap.size, 0, none⟩) (.inl (by simp)) (.int .i64 (xk.toNat : Nat))).setCell (p := ⟨w.heap.size, 1, none⟩) (.inl (by simp)) (.int .i64 (xv.toNat : Nat))).setCell (p := ⟨w.heap.size, 2, none⟩) (.inl (by simp)) (.slice A6 n6 c6))) (fun k hk hm => ?_), (Kq5.out.trans Hk6.out (by simp)).cells3 (Nat.le_refl _) _ _ _, fun k hk => ?_⟩
                · have := hg k hk
                  simp at hm
                  omega
                · have := hg k hk
                  omega
              · have g5' : (((num [s0, s1, s2, s3] : Nat) : Int) != ((crc L : Nat) : Int)) = true := by simp; omega
                have Hp := Lib.hid (Hp5.out g5)
                clear g5 Hp5 Hp6
                have hz0 := Bz5.out.cell 0
                have hz1 := Bz5.out.cell 1
                have hz2 := Bz5.out.cell 2
                have hzf0 := Bz5.out.frozen 0
                have hzf1 := Bz5.out.frozen 1
                have hzf2 := Bz5.out.frozen 2
                simp only [List.getElem?_toArray, List.getElem?_cons_zero, List.getElem?_cons_succ] at hz0 hz1 hz2
                go_wp2
                obtain ⟨r1, r2, r3⟩ := Bz5.out.cells3 (.int .i64 0) (.int .i64 0) (.slice none 0 0)
                refine bodyPost_ret (by simp [results, Try.results48, go_sem, r1, r2, r3]; rfl) rfl ?_
                rw [Hp.out]
                exact ⟨_, rfl, Own.nil _ _ _, Kq5.out.cells3 (Nat.le_refl _) _ _ _, by simp [rowOf, Value.ownBlock]⟩
      · have Hp := Lib.hid (show takeP [a0, a1, a2, a3] [xk] [xv] [p, q] [c0, c1, c2, c3] [s0, s1, s2, s3] rest = (default, 0, 5) by unfold takeP; rw [if_neg (by simp [G1.out]), if_pos (by simpa using g2)])
        have g2' : (((num [c0, c1, c2, c3] : Nat) : Int) != ((crc [a0, a1, a2, a3, xk, xv, p, q] : Nat) : Int)) = true := by simp; omega
        clear g2
        go_wp2
        obtain ⟨r1, r2, r3⟩ := Bz4.out.cells3 (.int .i64 0) (.int .i64 0) (.slice none 0 0)
        refine bodyPost_ret (by simp [results, Try.results48, go_sem, r1, r2, r3]; rfl) rfl ?_
        rw [Hp.out]
        exact ⟨_, rfl, Own.nil _ _ _, Kq4.out.cells3 (Nat.le_refl _) _ _ _, by simp [rowOf, Value.ownBlock]⟩
    · have g1' : ([a0, a1, a2, a3] == [103, 111, 105, 116]) = false := by rw [beq_eq_false_iff_ne]; exact g1
      have Hp := Lib.hid (show takeP [a0, a1, a2, a3] [xk] [xv] [p, q] [c0, c1, c2, c3] [s0, s1, s2, s3] rest = (default, 0, 3) by unfold takeP; rw [if_pos g1])
      clear g1
      go_wp2
      obtain ⟨r1, r2, r3⟩ := (Hbz.out nq).cells3 (.int .i64 0) (.int .i64 0) (.slice none 0 0)
      refine bodyPost_ret (by simp [results, Try.results48, go_sem, r1, r2, r3]; rfl) rfl ?_
      rw [Hp.out]
      exact ⟨_, rfl, Own.nil _ _ _, (Hkq.out nq).cells3 (Nat.le_refl _) _ _ _, by simp [rowOf, Value.ownBlock]⟩
end Go.Proofs.Yticjcmjodnedjaa
