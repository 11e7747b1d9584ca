/-
  Arguments of the laws on frames, opened.
-/
import Derived.BigQuiet
import Derived.Laws.OwnMore
import Derived.Test.YtkacghjglicjiaaGreatRecA
import Derived.Test.YtkacghjglicjiaaGreatRecG
import Derived.Test.YtkacghjglicjiaaGreatRecP
import Derived.Test.YtkacghjglicjiaaGreatNb
namespace Go.Proofs.YtkacghjglicjiaaGreat
set_option linter.unusedVariables false
section
open Go.RowKit
set_option maxRecDepth 100000
theorem u32_four (a b c d : UInt8) : bits .or .u32 (bits .or .u32 (bits .or .u32 ((a.toNat : Int) % 4294967296 * 16777216 % 4294967296) ((b.toNat : Int) % 4294967296 * 65536 % 4294967296)) ((c.toNat : Int) % 4294967296 * 256 % 4294967296)) ((d.toNat : Int) % 4294967296) = (num [a, b, c, d] : Nat) := by
  have ha := a.toNat_lt
  have hb := b.toNat_lt
  have hc := c.toNat_lt
  have hd := d.toNat_lt
  rw [show ((a.toNat : Int) % 4294967296 * 16777216 % 4294967296) = ((a.toNat * 256 * 65536 : Nat) : Int) by omega, show ((b.toNat : Int) % 4294967296 * 65536 % 4294967296) = ((b.toNat * 65536 : Nat) : Int) by omega,
    show ((c.toNat : Int) % 4294967296 * 256 % 4294967296) = ((c.toNat * 256 : Nat) : Int) by omega, show ((d.toNat : Int) % 4294967296) = ((d.toNat : Nat) : Int) by omega]
  rw [u32_or_nat _ _ (by omega) (by omega), show a.toNat * 256 * 65536 = a.toNat * 2 ^ 24 by omega, nat_join 24 _ _ (by omega) (by omega)]
  rw [u32_or_nat _ _ (by omega) (by omega), show a.toNat * 2 ^ 24 + b.toNat * 65536 = (a.toNat * 256 + b.toNat) * 2 ^ 16 by omega, nat_join 16 _ _ (by omega) (by omega)]
  rw [u32_or_nat _ _ (by omega) (by omega), show (a.toNat * 256 + b.toNat) * 2 ^ 16 + c.toNat * 256 = ((a.toNat * 256 + b.toNat) * 256 + c.toNat) * 2 ^ 8 by omega, nat_join 8 _ _ (by omega) (by omega)]
  simp [num]
set_option maxHeartbeats 1600000 in
theorem ru32_any (w : World) (G : List Nat) (A : Option Addr) (m c : Nat) (x0 x1 x2 x3 : UInt8) (rest : List UInt8) (h : RdB w G (.slice A m c) (x0 :: x1 :: x2 :: x3 :: rest)) :
    Calls Tryz.prog 122 #[.slice A m c] w fun e w' => e = .returned (.int .u32 (num [x0, x1, x2, x3] : Nat)) ∧ ∃ n, w' = w.drewN n := by
  have hm := h.len
  have hm4 : 4 ≤ m := by rw [← hm.1]; simp
  obtain ⟨g, o, rfl, hc⟩ := h.rd (by simp [u8s])
  have hc0 := hc 0 (.int .u8 x0.toNat) (by simp [u8s, u8v])
  have hc1 := hc 1 (.int .u8 x1.toNat) (by simp [u8s, u8v])
  have hc2 := hc 2 (.int .u8 x2.toNat) (by simp [u8s, u8v])
  have hc3 := hc 3 (.int .u8 x3.toNat) (by simp [u8s, u8v])
  simp only [Nat.add_zero] at hc0
  clear h hc hm
  go_enter Tryz.func122, Tryz.ntmps122
  go_wp2
  go_quiet (fail)
  go_wp2
  go_ret
  exact ⟨by rw [← u32_four]; rfl, _, rfl⟩
end
section
open Go.RowKit
set_option maxRecDepth 100000
theorem i64_two (p q : UInt8) : bits .or .i64 (wrap64 (wrap64 (p.toNat : Int) * 256)) (wrap64 (q.toNat : Int)) = (num [p, q] : Nat) := by
  have hp := p.toNat_lt
  have hq := q.toNat_lt
  rw [show wrap64 (wrap64 (p.toNat : Int) * 256) = ((p.toNat * 256 : Nat) : Int) by unfold wrap64; omega, show wrap64 (q.toNat : Int) = ((q.toNat : Nat) : Int) by unfold wrap64; omega]
  have hx : p.toNat * 256 ||| q.toNat < 2 ^ 64 := Nat.or_lt_two_pow (by omega) (by omega)
  have hj := nat_join 8 (p.toNat * 256) q.toNat (by omega) (by omega)
  show IntKind.i64.wrap ((BitVec.ofInt 64 ((p.toNat * 256 : Nat) : Int) ||| BitVec.ofInt 64 ((q.toNat : Nat) : Int)).toNat : Int) = _
  rw [BitVec.toNat_or, ofInt_u64 _ (by omega), ofInt_u64 _ (by omega), hj]
  have : num [p, q] = p.toNat * 256 + q.toNat := by simp [num]
  rw [this]
  exact IntWalk.i64_in _ (by omega)
set_option maxHeartbeats 3200000 in
theorem rTake_any (w : World) (G : List Nat) (A : Option Addr) (m c : Nat) (bs : List UInt8) (h : RdB w G (.slice A m c) bs) :
    Calls Tryz.prog 78 #[.slice A m c] w fun e w' => ∃ v, e = .returned (.tuple #[.agg #[.int .i64 (takeF bs).1.kind, .int .i64 (takeF bs).1.ver, v], .int .i64 (takeF bs).2.1, .int .i64 (takeF bs).2.2]) ∧ New w 5 1 v (takeF bs).1.body.length (u8s (takeF bs).1.body) w' := by
  have hm := h.len
  have H := Lib.hid h
  have Hm := Lib.hid hm.1
  have hcm := hm.2.2.1
  have hmc := hm.2.1
  unfold maxLen at hcm
  clear h hm
  by_cases h16 : m < 16
  · have ht : takeF bs = (default, 0, 2) := by unfold takeF; rw [if_pos (by rw [Hm.out]; exact h16)]
    rw [ht]
    clear ht
    go_enter Tryz.func78, Tryz.ntmps78
    go_wp2
    have hb := (Blk.new w 45 #[.int .i64 0, .int .i64 0, .slice none 0 0]).alloc (.cells #[.int .i64 0, .int .i64 0, .slice none 0 0] 45)
    have r1 := hb.cell 0
    have r2 := hb.cell 1
    have r3 := hb.cell 2
    simp only [List.getElem?_toArray, List.getElem?_cons_zero, List.getElem?_cons_succ] at r1 r2 r3
    clear hb
    refine bodyPost_ret (by simp [results, Tryz.results78, go_sem, r1, r2, r3]; rfl) rfl ?_
    exact ⟨_, rfl, Own.nil _ _ _, ((Kept.refl _ _).alloc _).alloc _, by simp [rowOf, Value.ownBlock]⟩
  · have h16' : 16 ≤ m := by omega
    clear h16
    obtain ⟨m4, k1, v1, n2, c4, s4, rest, hbs, l1, l2, l3, l4, l5, l6, ht⟩ := take_parts bs (by rw [Hm.out]; omega)
    rw [ht]
    obtain ⟨a0, a1, a2, a3, rfl⟩ : ∃ a0 a1 a2 a3, m4 = [a0, a1, a2, a3] := by
      rcases m4 with _ | ⟨a0, _ | ⟨a1, _ | ⟨a2, _ | ⟨a3, _ | ⟨_, _⟩⟩⟩⟩⟩ <;> simp at l1
      exact ⟨_, _, _, _, rfl⟩
    obtain ⟨xk, rfl⟩ : ∃ x, k1 = [x] := List.length_eq_one_iff.1 l2
    obtain ⟨xv, rfl⟩ : ∃ x, v1 = [x] := List.length_eq_one_iff.1 l3
    obtain ⟨p, q, rfl⟩ : ∃ p q, n2 = [p, q] := by
      rcases n2 with _ | ⟨p, _ | ⟨q, _ | ⟨_, _⟩⟩⟩ <;> simp at l4
      exact ⟨_, _, rfl⟩
    obtain ⟨c0, c1, c2, c3, rfl⟩ : ∃ a0 a1 a2 a3, c4 = [a0, a1, a2, a3] := by
      rcases c4 with _ | ⟨a0, _ | ⟨a1, _ | ⟨a2, _ | ⟨a3, _ | ⟨_, _⟩⟩⟩⟩⟩ <;> simp at l5
      exact ⟨_, _, _, _, rfl⟩
    obtain ⟨s0, s1, s2, s3, rfl⟩ : ∃ a0 a1 a2 a3, s4 = [a0, a1, a2, a3] := by
      rcases s4 with _ | ⟨a0, _ | ⟨a1, _ | ⟨a2, _ | ⟨a3, _ | ⟨_, _⟩⟩⟩⟩⟩ <;> simp at l6
      exact ⟨_, _, _, _, rfl⟩
    simp only [List.cons_append, List.nil_append] at hbs
    clear l1 l2 l3 l4 l5 l6 ht
    have hrl : rest.length + 16 = m := by rw [← Hm.out, hbs]; simp
    obtain ⟨g, o, rfl, hc⟩ := (H.out.kept (((Kept.refl [] w).alloc (.cells #[.int .i64 0, .int .i64 0, .slice none 0 0] 45)).alloc (.cells #[.int .i64 0, .int .i64 0, .slice none 0 0] 45)) (by simp)).rd (by rw [hbs]; simp [u8s])
    rw [hbs] at hc
    have hc4 := hc 4 (.int .u8 xk.toNat) (by simp [u8s, u8v])
    have hc5 := hc 5 (.int .u8 xv.toNat) (by simp [u8s, u8v])
    have hc6 := hc 6 (.int .u8 p.toNat) (by simp [u8s, u8v])
    have hc7 := hc 7 (.int .u8 q.toNat) (by simp [u8s, u8v])
    have Hbs := Lib.hid hbs
    have Hrl := Lib.hid hrl
    clear hc hbs hrl
    go_enter Tryz.func78, Tryz.ntmps78
    go_wp2
    go_quiet (fail)
    rw [i64_two]
    have hn2 : num [p, q] < 65536 := by have := num_lt [p, q]; simpa using this
    generalize hN : num [p, q] = N at *
    have HN := Lib.hid hN
    clear hN
    have Hkq := Lib.hid (show ∀ n, Kept [] w (((w.alloc (.cells #[.int .i64 0, .int .i64 0, .slice none 0 0] 45)).alloc (.cells #[.int .i64 0, .int .i64 0, .slice none 0 0] 45)).drewN n) from fun n => (((Kept.refl [] w).alloc _).alloc _).drewN n)
    have Hbz := Lib.hid (show ∀ n, Blk (((w.alloc (.cells #[.int .i64 0, .int .i64 0, .slice none 0 0] 45)).alloc (.cells #[.int .i64 0, .int .i64 0, .slice none 0 0] 45)).drewN n) w.heap.size 45 #[.int .i64 0, .int .i64 0, .slice none 0 0] from fun n => ((Blk.new w 45 #[.int .i64 0, .int .i64 0, .slice none 0 0]).alloc _).kept ((Kept.refl [] _).drewN n) (by simp))
    have Hby := Lib.hid (show ∀ n, Blk (((w.alloc (.cells #[.int .i64 0, .int .i64 0, .slice none 0 0] 45)).alloc (.cells #[.int .i64 0, .int .i64 0, .slice none 0 0] 45)).drewN n) (w.heap.size + 1) 45 #[.int .i64 0, .int .i64 0, .slice none 0 0] from fun n => by
      have h1 := Blk.new (w.alloc (.cells #[.int .i64 0, .int .i64 0, .slice none 0 0] 45)) 45 #[.int .i64 0, .int .i64 0, .slice none 0 0]
      rw [World.size_alloc] at h1
      exact h1.kept ((Kept.refl [] _).drewN n) (by simp))
    have hall : ∀ n, RdB (((w.alloc (.cells #[.int .i64 0, .int .i64 0, .slice none 0 0] 45)).alloc (.cells #[.int .i64 0, .int .i64 0, .slice none 0 0] 45)).drewN n) G (.slice (some ⟨g, o, none⟩) m c) bs := fun n => H.out.kept (Hkq.out n) (by simp)
    have Hc8 := Lib.hid (show ∀ n, RdB (((w.alloc (.cells #[.int .i64 0, .int .i64 0, .slice none 0 0] 45)).alloc (.cells #[.int .i64 0, .int .i64 0, .slice none 0 0] 45)).drewN n) G (.slice (some ⟨g, o, none⟩) 8 c) ([a0, a1, a2, a3] ++ ([xk] ++ ([xv] ++ [p, q]))) from fun n => by
      have h1 := (hall n).upto 8 (by omega)
      rw [Hbs.out] at h1
      exact h1)
    have Hu8 := Lib.hid (show ∀ n, RdB (((w.alloc (.cells #[.int .i64 0, .int .i64 0, .slice none 0 0] 45)).alloc (.cells #[.int .i64 0, .int .i64 0, .slice none 0 0] 45)).drewN n) G (.slice (some ⟨g, o + 8, none⟩) (m - 8) (c - 8)) (c0 :: c1 :: c2 :: c3 :: (s0 :: s1 :: s2 :: s3 :: rest)) from fun n => by
      have h1 := (hall n).drop 8 (by omega)
      rw [Hbs.out] at h1
      exact h1)
    have Hu12 := Lib.hid (show ∀ n, RdB (((w.alloc (.cells #[.int .i64 0, .int .i64 0, .slice none 0 0] 45)).alloc (.cells #[.int .i64 0, .int .i64 0, .slice none 0 0] 45)).drewN n) G (.slice (some ⟨g, o + 12, none⟩) (m - 12) (c - 12)) (s0 :: s1 :: s2 :: s3 :: rest) from fun n => by
      have h1 := (hall n).drop 12 (by omega)
      rw [Hbs.out] at h1
      exact h1)
    have Hr16 := Lib.hid (show ∀ n, RdB (((w.alloc (.cells #[.int .i64 0, .int .i64 0, .slice none 0 0] 45)).alloc (.cells #[.int .i64 0, .int .i64 0, .slice none 0 0] 45)).drewN n) G (.slice (some ⟨g, o + 16, none⟩) (m - 16) (c - 16)) rest from fun n => by
      have h1 := (hall n).drop 16 (by omega)
      rw [Hbs.out] at h1
      exact h1)
    clear hall
    have hs5 := run_str ((H.out.kept (Hkq.out nq) (by simp)).upto 4 (by omega))
    rw [Hbs.out, show List.take 4 (a0 :: a1 :: a2 :: a3 :: xk :: xv :: p :: q :: c0 :: c1 :: c2 :: c3 :: s0 :: s1 :: s2 :: s3 :: rest) = [a0, a1, a2, a3] from rfl] at hs5
    have hts := strOf_toList [a0, a1, a2, a3]
    by_cases g1 : [a0, a1, a2, a3] = [103, 111, 105, 116]
    · have g1' : ([a0, a1, a2, a3] == [103, 111, 105, 116]) = true := by rw [g1]; rfl
      have G1 := Lib.hid g1
      clear g1
      go_wp2
      clear hs5
      have Kq := Lib.hid (Hkq.out nq)
      have Bz := Lib.hid (Hbz.out nq)
      have By := Lib.hid (Hby.out nq)
      have U8 := Lib.hid (Hu8.out nq)
      have C8 := Lib.hid (Hc8.out nq)
      have U12 := Lib.hid (Hu12.out nq)
      have R16 := Lib.hid (Hr16.out nq)
      clear Hkq Hbz Hby Hu8 Hc8 Hu12 Hr16 hc4 hc5 hc6 hc7
      generalize ((w.alloc (.cells #[.int .i64 0, .int .i64 0, .slice none 0 0] 45)).alloc (.cells #[.int .i64 0, .int .i64 0, .slice none 0 0] 45)).drewN nq = W3 at *
      have y1 : (8 : Int) ≤ (m : Int) := by omega
      have y2 : (m : Int) ≤ (c : Int) := by omega
      have y3 : (8 : Int) ≤ (c : Int) := by omega
      have y4 : ¬ ((c : Int) = 8) := by omega
      have y6 : (8 : Int) < (c : Int) := by omega
      have z1 : ¬ c = 8 := by omega
      have z3 : (c == 8) = false := by simp [z1]
      have z7 : ¬ (c - 8 = 0) := by omega
      have z5 : 8 ≤ m := by omega
      go_quiet ((first
        | (go_at_call 122; exact Calls.quiet_of (ru32_any _ _ _ _ _ _ _ _ _ _ (U8.out.kept ((Kept.refl [] _).drewN _) (by simp))))
        | (go_at_call 32; exact Calls.quiet_of_same ((rCrc_any _ _ _ _ _ _ (C8.out.kept ((Kept.refl [] _).drewN _) (by simp))).mono fun _ _ ⟨a, b⟩ => ⟨a, b.symm⟩))))
      have Kq4 := Lib.hid (Kq.out.drewN nq)
      have Bz4 := Lib.hid (Bz.out.drewN nq)
      have By4 := Lib.hid (By.out.drewN nq)
      have U12' := Lib.hid (U12.out.kept ((Kept.refl [] _).drewN nq) (by simp))
      have R16' := Lib.hid (R16.out.kept ((Kept.refl [] _).drewN nq) (by simp))
      clear Kq Bz By U8 C8 U12 R16
      generalize W3.drewN nq = W4 at *
      have hy0 := By4.out.cell 0
      have hy1 := By4.out.cell 1
      have hy2 := By4.out.cell 2
      have hz0 := Bz4.out.cell 0
      have hz1 := Bz4.out.cell 1
      have hz2 := Bz4.out.cell 2
      have hzf0 := Bz4.out.frozen 0
      have hzf1 := Bz4.out.frozen 1
      have hzf2 := Bz4.out.frozen 2
      have hlt4 := By4.out.lt
      simp only [List.getElem?_toArray, List.getElem?_cons_zero, List.getElem?_cons_succ] at hy0 hy1 hy2 hz0 hz1 hz2
      by_cases g2 : num [c0, c1, c2, c3] = crc [a0, a1, a2, a3, xk, xv, p, q]
      · have g2' : (((num [c0, c1, c2, c3] : Nat) : Int) != ((crc [a0, a1, a2, a3, xk, xv, p, q] : Nat) : Int)) = false := by simp; omega
        have G2 := Lib.hid g2
        clear g2
        by_cases g3 : 4096 < N
        · have Hp := Lib.hid (show takeP [a0, a1, a2, a3] [xk] [xv] [p, q] [c0, c1, c2, c3] [s0, s1, s2, s3] rest = (default, 0, 4) by unfold takeP; rw [if_neg (by simp [G1.out]), if_neg (by simp [G2.out]), if_pos (by rw [HN.out]; exact g3)])
          go_wp2
          obtain ⟨r1, r2, r3⟩ := Bz4.out.cells3 (.int .i64 0) (.int .i64 0) (.slice none 0 0)
          refine bodyPost_ret (by simp [results, Tryz.results78, go_sem, r1, r2, r3]; rfl) rfl ?_
          rw [Hp.out]
          exact ⟨_, rfl, Own.nil _ _ _, Kq4.out.cells3 (Nat.le_refl _) _ _ _, by simp [rowOf, Value.ownBlock]⟩
        · by_cases g4 : m < N + 16
          · have Hp := Lib.hid (show takeP [a0, a1, a2, a3] [xk] [xv] [p, q] [c0, c1, c2, c3] [s0, s1, s2, s3] rest = (default, 0, 2) by unfold takeP; rw [if_neg (by simp [G1.out]), if_neg (by simp [G2.out]), if_neg (by rw [HN.out]; exact g3), if_pos (by rw [HN.out]; have := Hrl.out; omega)])
            go_wp2
            obtain ⟨r1, r2, r3⟩ := Bz4.out.cells3 (.int .i64 0) (.int .i64 0) (.slice none 0 0)
            refine bodyPost_ret (by simp [results, Tryz.results78, go_sem, r1, r2, r3]; rfl) rfl ?_
            rw [Hp.out]
            exact ⟨_, rfl, Own.nil _ _ _, Kq4.out.cells3 (Nat.le_refl _) _ _ _, by simp [rowOf, Value.ownBlock]⟩
          · have Hp5 := Lib.hid (show num [s0, s1, s2, s3] ≠ crc (rest.take N) → takeP [a0, a1, a2, a3] [xk] [xv] [p, q] [c0, c1, c2, c3] [s0, s1, s2, s3] rest = (default, 0, 5) from fun g5 => by
              unfold takeP
              rw [HN.out, if_neg (by simp [G1.out]), if_neg (by simp [G2.out]), if_neg g3, if_neg (by have := Hrl.out; omega), if_pos g5])
            have Hp6 := Lib.hid (show num [s0, s1, s2, s3] = crc (rest.take N) → takeP [a0, a1, a2, a3] [xk] [xv] [p, q] [c0, c1, c2, c3] [s0, s1, s2, s3] rest = (⟨(xk.toNat : Nat), (xv.toNat : Nat), rest.take N⟩, 16 + N, 0) from fun g5 => by
              unfold takeP
              rw [HN.out, if_neg (by simp [G1.out]), if_neg (by simp [G2.out]), if_neg g3, if_neg (by have := Hrl.out; omega), if_neg (by simp [g5])]
              simp [num])
            have HB0 := Lib.hid (show ∀ n, RdB (W4.drewN n) G (.slice (if c = 16 then some ⟨g, o, none⟩ else some ⟨g, o + 16, none⟩) N (c - 16)) (rest.take N) from fun n => by
              by_cases hc : c = 16
              · have h1 := Hrl.out
                have h2 : N = 0 := by omega
                have h3 : rest = [] := List.eq_nil_of_length_eq_zero (by omega)
                rw [if_pos hc, h2, h3]
                exact ⟨_, 0, _, rfl, rfl, by omega, by unfold maxLen; omega, Rd.nil _ _, by simp, by simp⟩
              · have h1 := (R16'.out.upto N (by omega)).kept ((Kept.refl [] _).drewN n) (by simp)
                rw [if_neg hc]
                exact h1)
            have htl : (rest.take N).length = N := by rw [List.length_take]; have := Hrl.out; omega
            have Htl := Lib.hid htl
            clear htl
            generalize rest.take N = L at *
            by_cases hc16 : c = 16
            · subst hc16
              have HB := Lib.hid (show ∀ n, RdB (W4.drewN n) G (.slice (some ⟨g, o, none⟩) N 0) L from fun n => by simpa using HB0.out n)
              have hw16 : IntKind.i64.wrap (16 + (N : Int)) = 16 + N := IntWalk.i64_in _ (by omega)
              go_wp2
              go_quiet ((first
                | (go_at_call 122; exact Calls.quiet_of (ru32_any _ _ _ _ _ _ _ _ _ _ (U12'.out.kept ((Kept.refl [] _).drewN _) (by simp))))
                | (go_at_call 32; exact Calls.quiet_of_same ((rCrc_any _ _ _ _ _ _ (HB.out _)).mono fun _ _ ⟨a, b⟩ => ⟨a, b.symm⟩))))
              have Kq5 := Lib.hid (Kq4.out.drewN nq)
              have Bz5 := Lib.hid (Bz4.out.drewN nq)
              have By5 := Lib.hid (By4.out.drewN nq)
              have HB5 := Lib.hid (HB.out nq)
              clear HB0 Kq4 Bz4 By4 U12' R16' HB hy0 hy1 hy2 hz0 hz1 hz2 hzf0 hzf1 hzf2 hlt4
              generalize W4.drewN nq = W5 at *
              have hy0 := By5.out.cell 0
              have hy1 := By5.out.cell 1
              have hy2 := By5.out.cell 2
              have hlt5 := By5.out.lt
              simp only [List.getElem?_toArray, List.getElem?_cons_zero, List.getElem?_cons_succ] at hy0 hy1 hy2
              by_cases g5 : num [s0, s1, s2, s3] = crc L
              · have g5' : (((num [s0, s1, s2, s3] : Nat) : Int) != ((crc L : Nat) : Int)) = false := by simp; omega
                have Hp := Lib.hid (Hp6.out g5)
                clear g5 Hp5 Hp6
                have hz0 := Bz5.out.cell 0
                have hz1 := Bz5.out.cell 1
                have hz2 := Bz5.out.cell 2
                have hzf0 := Bz5.out.frozen 0
                have hzf1 := Bz5.out.frozen 1
                have hzf2 := Bz5.out.frozen 2
                simp only [List.getElem?_toArray, List.getElem?_cons_zero, List.getElem?_cons_succ] at hz0 hz1 hz2
                obtain ⟨h54, h55⟩ : W5.cell? ⟨g, o + 4, none⟩ = some (.int .u8 xk.toNat) ∧ W5.cell? ⟨g, o + 5, none⟩ = some (.int .u8 xv.toNat) := by
                  have hr := (H.out.kept Kq5.out (by simp)).rd
                  rw [Hbs.out] at hr
                  obtain ⟨g', o', he, hc⟩ := hr (by simp [u8s])
                  injection he with he
                  injection he with e1 e2
                  subst e1 e2
                  exact ⟨hc 4 _ (by simp [u8s, u8v]), hc 5 _ (by simp [u8s, u8v])⟩
                have hgs : g < w.heap.size := by
                  have hr := H.out.rd
                  rw [Hbs.out] at hr
                  exact hr.lt (by simp [u8s]) g (by simp [addrOf])
                have hgn1 : ¬ g = w.heap.size := by omega
                have hgn2 : ¬ w.heap.size = g := by omega
                have i4 : (4 : Int) < (m : Int) := by omega
                have i5 : (5 : Int) < (m : Int) := by omega
                have i6 : (0 : Int) ≤ 16 + (N : Int) := by omega
                have i7 : (16 : Int) ≤ 16 + (N : Int) := by omega
                have i8 : 16 + (N : Int) ≤ 16 := by omega
                have i11 : (N : Int) ≤ 0 := by omega
                have i12 : ((N : Int) = 0) = True := by simp; omega
                have i13 : N ≤ 0 := by omega
                have i14 : (m : Int) ≤ 16 := by omega
                have i9 : (16 + (N : Int)).toNat = 16 + N := by omega
                have i10 : (16 + (N : Int)).toNat - 16 = N := by omega
                have hwk : IntKind.i64.wrap (xk.toNat : Int) = xk.toNat := IntWalk.i64_in _ (by have := xk.toNat_lt; omega)
                have hwv : IntKind.i64.wrap (xv.toNat : Int) = xv.toNat := IntWalk.i64_in _ (by have := xv.toNat_lt; omega)
                go_wp2
                go_region_held3 (fun w' => w'.cell? ⟨g, o + 4, none⟩ = some (.int .u8 xk.toNat) ∧ w'.cell? ⟨g, o + 5, none⟩ = some (.int .u8 xv.toNat))
                  (first | go_keep | exact ⟨hq4, hq5⟩)
                  ((refine step_app _ rfl (.const (.slice none 0 0)) (.tmp 70) 31 rfl elem_u8 (by rfl) (Own.nil _ _ _) (by rfl) HB5.out.rd.drew (by rw [u8s_len, Htl.out, Nat.mul_one]) (u8s_one _) (by unfold maxLen; omega) (by omega) ?_
                    intro v6 w6 ho6 hk6 hr6
                    have hk6 := (Kept.refl [] W5).drew.trans hk6 (by simp [rowOf, Value.ownBlock])
                    have hb6 := Bz5.out.kept hk6 (by simp)
                    have hq0 := hb6.cell 0
                    have hq1 := hb6.cell 1
                    have hq2 := hb6.cell 2
                    have hqf0 := hb6.frozen 0
                    have hqf1 := hb6.frozen 1
                    have hqf2 := hb6.frozen 2
                    simp only [List.getElem?_toArray, List.getElem?_cons_zero, List.getElem?_cons_succ] at hq0 hq1 hq2
                    have hq4 := (hk6.cell (p := ⟨g, o + 4, none⟩) (Nat.lt_of_lt_of_le hgs (Nat.le_trans (Nat.le_succ _) (Nat.le_of_lt hlt5))) (by simp)).trans h54
                    have hq5 := (hk6.cell (p := ⟨g, o + 5, none⟩) (Nat.lt_of_lt_of_le hgs (Nat.le_trans (Nat.le_succ _) (Nat.le_of_lt hlt5))) (by simp)).trans h55
                    have Ho6 := Lib.hid ho6
                    have Hk6 := Lib.hid hk6
                    have Hr6 := Lib.hid hr6
                    have Hb6 := Lib.hid hb6
                    clear ho6 hk6 hr6 hb6
                    obtain ⟨A6, n6, c6, rfl⟩ := Ho6.out.form'))
                go_wp2
                obtain ⟨r1, r2, r3⟩ := Hb6.out.cells3 (.int .i64 (xk.toNat : Nat)) (.int .i64 (xv.toNat : Nat)) (.slice A6 n6 c6)
                refine bodyPost_ret (by simp [results, Tryz.results78, go_sem, r1, r2, r3]; rfl) rfl ?_
                rw [Hp.out]
                refine ⟨.slice A6 n6 c6, by simp, ?_⟩
                show New w 5 1 (.slice A6 n6 c6) L.length (u8s L) _
                have hg : ∀ k ∈ rowOf (.slice A6 n6 c6), w.heap.size + 1 ≤ k := fun k hk => by
                  rcases Hr6.out k hk with h8 | h8
                  · simp [rowOf, Value.ownBlock] at h8
                  · exact Nat.le_trans (Nat.le_of_lt hlt5) h8
                have ho : Own w6 5 1 (.slice A6 n6 c6) L.length (u8s L) := by
                  have := Ho6.out
                  rw [show 0 + N = L.length by rw [Htl.out]; omega] at this
                  simpa using this
                refine ⟨ho.kept (((((Kept.refl [w.heap.size] w6).setCell (p := ⟨w.heap.size, 0, none⟩) (.inl (by simp)) (.int .i64 (xk.toNat : Nat))).setCell (p := ⟨w.heap.size, 1, none⟩) (.inl (by simp)) (.int .i64 (xv.toNat : Nat))).setCell (p := ⟨w.heap.size, 2, none⟩) (.inl (by simp)) (.slice A6 n6 c6))) (fun k hk hm => ?_), (Kq5.out.trans Hk6.out (by simp)).cells3 (Nat.le_refl _) _ _ _, fun k hk => ?_⟩
                · have := hg k hk
                  simp at hm
                  omega
                · have := hg k hk
                  omega
              · have g5' : (((num [s0, s1, s2, s3] : Nat) : Int) != ((crc L : Nat) : Int)) = true := by simp; omega
                have Hp := Lib.hid (Hp5.out g5)
                clear g5 Hp5 Hp6
                have hz0 := Bz5.out.cell 0
                have hz1 := Bz5.out.cell 1
                have hz2 := Bz5.out.cell 2
                have hzf0 := Bz5.out.frozen 0
                have hzf1 := Bz5.out.frozen 1
                have hzf2 := Bz5.out.frozen 2
                simp only [List.getElem?_toArray, List.getElem?_cons_zero, List.getElem?_cons_succ] at hz0 hz1 hz2
                go_wp2
                obtain ⟨r1, r2, r3⟩ := Bz5.out.cells3 (.int .i64 0) (.int .i64 0) (.slice none 0 0)
                refine bodyPost_ret (by simp [results, Tryz.results78, go_sem, r1, r2, r3]; rfl) rfl ?_
                rw [Hp.out]
                exact ⟨_, rfl, Own.nil _ _ _, Kq5.out.cells3 (Nat.le_refl _) _ _ _, by simp [rowOf, Value.ownBlock]⟩
            · have HB := Lib.hid (show ∀ n, RdB (W4.drewN n) G (.slice (some ⟨g, o + 16, none⟩) N (c - 16)) L from fun n => by simpa [hc16] using HB0.out n)
              have hw16 : IntKind.i64.wrap (16 + (N : Int)) = 16 + N := IntWalk.i64_in _ (by omega)
              go_wp2
              go_quiet ((first
                | (go_at_call 122; exact Calls.quiet_of (ru32_any _ _ _ _ _ _ _ _ _ _ (U12'.out.kept ((Kept.refl [] _).drewN _) (by simp))))
                | (go_at_call 32; exact Calls.quiet_of_same ((rCrc_any _ _ _ _ _ _ (HB.out _)).mono fun _ _ ⟨a, b⟩ => ⟨a, b.symm⟩))))
              have Kq5 := Lib.hid (Kq4.out.drewN nq)
              have Bz5 := Lib.hid (Bz4.out.drewN nq)
              have By5 := Lib.hid (By4.out.drewN nq)
              have HB5 := Lib.hid (HB.out nq)
              clear HB0 Kq4 Bz4 By4 U12' R16' HB hy0 hy1 hy2 hz0 hz1 hz2 hzf0 hzf1 hzf2 hlt4
              generalize W4.drewN nq = W5 at *
              have hy0 := By5.out.cell 0
              have hy1 := By5.out.cell 1
              have hy2 := By5.out.cell 2
              have hlt5 := By5.out.lt
              simp only [List.getElem?_toArray, List.getElem?_cons_zero, List.getElem?_cons_succ] at hy0 hy1 hy2
              by_cases g5 : num [s0, s1, s2, s3] = crc L
              · have g5' : (((num [s0, s1, s2, s3] : Nat) : Int) != ((crc L : Nat) : Int)) = false := by simp; omega
                have Hp := Lib.hid (Hp6.out g5)
                clear g5 Hp5 Hp6
                have hz0 := Bz5.out.cell 0
                have hz1 := Bz5.out.cell 1
                have hz2 := Bz5.out.cell 2
                have hzf0 := Bz5.out.frozen 0
                have hzf1 := Bz5.out.frozen 1
                have hzf2 := Bz5.out.frozen 2
                simp only [List.getElem?_toArray, List.getElem?_cons_zero, List.getElem?_cons_succ] at hz0 hz1 hz2
                obtain ⟨h54, h55⟩ : W5.cell? ⟨g, o + 4, none⟩ = some (.int .u8 xk.toNat) ∧ W5.cell? ⟨g, o + 5, none⟩ = some (.int .u8 xv.toNat) := by
                  have hr := (H.out.kept Kq5.out (by simp)).rd
                  rw [Hbs.out] at hr
                  obtain ⟨g', o', he, hc⟩ := hr (by simp [u8s])
                  injection he with he
                  injection he with e1 e2
                  subst e1 e2
                  exact ⟨hc 4 _ (by simp [u8s, u8v]), hc 5 _ (by simp [u8s, u8v])⟩
                have hgs : g < w.heap.size := by
                  have hr := H.out.rd
                  rw [Hbs.out] at hr
                  exact hr.lt (by simp [u8s]) g (by simp [addrOf])
                have hgn1 : ¬ g = w.heap.size := by omega
                have hgn2 : ¬ w.heap.size = g := by omega
                have i4 : (4 : Int) < (m : Int) := by omega
                have i5 : (5 : Int) < (m : Int) := by omega
                have i6 : (0 : Int) ≤ 16 + (N : Int) := by omega
                have i7 : (16 : Int) ≤ 16 + (N : Int) := by omega
                have i8 : 16 + (N : Int) ≤ (c : Int) := by omega
                have i9 : (16 + (N : Int)).toNat = 16 + N := by omega
                have i10 : (16 + (N : Int)).toNat - 16 = N := by omega
                have hwk : IntKind.i64.wrap (xk.toNat : Int) = xk.toNat := IntWalk.i64_in _ (by have := xk.toNat_lt; omega)
                have hwv : IntKind.i64.wrap (xv.toNat : Int) = xv.toNat := IntWalk.i64_in _ (by have := xv.toNat_lt; omega)
                go_wp2
                go_region_held3 (fun w' => w'.cell? ⟨g, o + 4, none⟩ = some (.int .u8 xk.toNat) ∧ w'.cell? ⟨g, o + 5, none⟩ = some (.int .u8 xv.toNat))
                  (first | go_keep | exact ⟨hq4, hq5⟩)
                  ((refine step_app _ rfl (.const (.slice none 0 0)) (.tmp 70) 31 rfl elem_u8 (by rfl) (Own.nil _ _ _) (by rfl) HB5.out.rd.drew (by rw [u8s_len, Htl.out, Nat.mul_one]) (u8s_one _) (by unfold maxLen; omega) (by omega) ?_
                    intro v6 w6 ho6 hk6 hr6
                    have hk6 := (Kept.refl [] W5).drew.trans hk6 (by simp [rowOf, Value.ownBlock])
                    have hb6 := Bz5.out.kept hk6 (by simp)
                    have hq0 := hb6.cell 0
                    have hq1 := hb6.cell 1
                    have hq2 := hb6.cell 2
                    have hqf0 := hb6.frozen 0
                    have hqf1 := hb6.frozen 1
                    have hqf2 := hb6.frozen 2
                    simp only [List.getElem?_toArray, List.getElem?_cons_zero, List.getElem?_cons_succ] at hq0 hq1 hq2
                    have hq4 := (hk6.cell (p := ⟨g, o + 4, none⟩) (Nat.lt_of_lt_of_le hgs (Nat.le_trans (Nat.le_succ _) (Nat.le_of_lt hlt5))) (by simp)).trans h54
                    have hq5 := (hk6.cell (p := ⟨g, o + 5, none⟩) (Nat.lt_of_lt_of_le hgs (Nat.le_trans (Nat.le_succ _) (Nat.le_of_lt hlt5))) (by simp)).trans h55
                    have Ho6 := Lib.hid ho6
                    have Hk6 := Lib.hid hk6
                    have Hr6 := Lib.hid hr6
                    have Hb6 := Lib.hid hb6
                    clear ho6 hk6 hr6 hb6
                    obtain ⟨A6, n6, c6, rfl⟩ := Ho6.out.form'))
                go_wp2
                obtain ⟨r1, r2, r3⟩ := Hb6.out.cells3 (.int .i64 (xk.toNat : Nat)) (.int .i64 (xv.toNat : Nat)) (.slice A6 n6 c6)
                refine bodyPost_ret (by simp [results, Tryz.results78, go_sem, r1, r2, r3]; rfl) rfl ?_
                rw [Hp.out]
                refine ⟨.slice A6 n6 c6, by simp, ?_⟩
                show New w 5 1 (.slice A6 n6 c6) L.length (u8s L) _
                have hg : ∀ k ∈ rowOf (.slice A6 n6 c6), w.heap.size + 1 ≤ k := fun k hk => by
                  rcases Hr6.out k hk with h8 | h8
                  · simp [rowOf, Value.ownBlock] at h8
                  · exact Nat.le_trans (Nat.le_of_lt hlt5) h8
                have ho : Own w6 5 1 (.slice A6 n6 c6) L.length (u8s L) := by
                  have := Ho6.out
                  rw [show 0 + N = L.length by rw [Htl.out]; omega] at this
                  simpa using this
                refine ⟨ho.kept (((((Kept.refl [w.heap.size] w6).setCell (p := ⟨w.heap.size, 0, none⟩) (.inl (by simp)) (.int .i64 (xk.toNat : Nat))).setCell (p := ⟨w.heap.size, 1, none⟩) (.inl (by simp)) (.int .i64 (xv.toNat : Nat))).setCell (p := ⟨w.heap.size, 2, none⟩) (.inl (by simp)) (.slice A6 n6 c6))) (fun k hk hm => ?_), (Kq5.out.trans Hk6.out (by simp)).cells3 (Nat.le_refl _) _ _ _, fun k hk => ?_⟩
                · have := hg k hk
                  simp at hm
                  omega
                · have := hg k hk
                  omega
              · have g5' : (((num [s0, s1, s2, s3] : Nat) : Int) != ((crc L : Nat) : Int)) = true := by simp; omega
                have Hp := Lib.hid (Hp5.out g5)
                clear g5 Hp5 Hp6
                have hz0 := Bz5.out.cell 0
                have hz1 := Bz5.out.cell 1
                have hz2 := Bz5.out.cell 2
                have hzf0 := Bz5.out.frozen 0
                have hzf1 := Bz5.out.frozen 1
                have hzf2 := Bz5.out.frozen 2
                simp only [List.getElem?_toArray, List.getElem?_cons_zero, List.getElem?_cons_succ] at hz0 hz1 hz2
                go_wp2
                obtain ⟨r1, r2, r3⟩ := Bz5.out.cells3 (.int .i64 0) (.int .i64 0) (.slice none 0 0)
                refine bodyPost_ret (by simp [results, Tryz.results78, go_sem, r1, r2, r3]; rfl) rfl ?_
                rw [Hp.out]
                exact ⟨_, rfl, Own.nil _ _ _, Kq5.out.cells3 (Nat.le_refl _) _ _ _, by simp [rowOf, Value.ownBlock]⟩
      · have Hp := Lib.hid (show takeP [a0, a1, a2, a3] [xk] [xv] [p, q] [c0, c1, c2, c3] [s0, s1, s2, s3] rest = (default, 0, 5) by unfold takeP; rw [if_neg (by simp [G1.out]), if_pos (by simpa using g2)])
        have g2' : (((num [c0, c1, c2, c3] : Nat) : Int) != ((crc [a0, a1, a2, a3, xk, xv, p, q] : Nat) : Int)) = true := by simp; omega
        clear g2
        go_wp2
        obtain ⟨r1, r2, r3⟩ := Bz4.out.cells3 (.int .i64 0) (.int .i64 0) (.slice none 0 0)
        refine bodyPost_ret (by simp [results, Tryz.results78, go_sem, r1, r2, r3]; rfl) rfl ?_
        rw [Hp.out]
        exact ⟨_, rfl, Own.nil _ _ _, Kq4.out.cells3 (Nat.le_refl _) _ _ _, by simp [rowOf, Value.ownBlock]⟩
    · have g1' : ([a0, a1, a2, a3] == [103, 111, 105, 116]) = false := by rw [beq_eq_false_iff_ne]; exact g1
      have Hp := Lib.hid (show takeP [a0, a1, a2, a3] [xk] [xv] [p, q] [c0, c1, c2, c3] [s0, s1, s2, s3] rest = (default, 0, 3) by unfold takeP; rw [if_pos g1])
      clear g1
      go_wp2
      obtain ⟨r1, r2, r3⟩ := (Hbz.out nq).cells3 (.int .i64 0) (.int .i64 0) (.slice none 0 0)
      refine bodyPost_ret (by simp [results, Tryz.results78, go_sem, r1, r2, r3]; rfl) rfl ?_
      rw [Hp.out]
      exact ⟨_, rfl, Own.nil _ _ _, (Hkq.out nq).cells3 (Nat.le_refl _) _ _ _, by simp [rowOf, Value.ownBlock]⟩
end
section
open Go.RowKit Go.ChangeShapes Go.WideShapes Go.Deep
set_option maxRecDepth 100000
def FrDec (w : World) (G : List Nat) (cs : List Value) (f : FrameD) : Prop := ∃ A m c, cs = [.int .i64 f.kind, .int .i64 f.ver, .slice A m c] ∧ RdB w G (.slice A m c) f.body
theorem FrOk : DecOk 3 FrDec where
  len := by rintro w G cs f ⟨A, m, c, rfl, h⟩; rfl
  one := by rintro w G cs f ⟨A, m, c, rfl, h⟩ u hu; simp at hu; rcases hu with rfl | rfl | rfl <;> rfl
  kept := by rintro w w' G S cs f ⟨A, m, c, rfl, h⟩ hk hd; exact ⟨A, m, c, rfl, h.kept hk hd⟩
  mono := by rintro w G G' cs f ⟨A, m, c, rfl, h⟩ hg; exact ⟨A, m, c, rfl, h.mono hg⟩
abbrev FrArr (w : World) (G : List Nat) (v : Value) (l : List FrameD) : Prop := ArrOf w G 3 (fun w => FrDec w G) v l
abbrev FrV (W w : World) (v : Value) (l : List FrameD) : Prop := LV FrDec 45 3 W w v l
theorem FrArr.kept {w w' : World} {G S : List Nat} {v : Value} {l : List FrameD} (h : FrArr w G v l) (hk : Kept S w w') (hd : ∀ k ∈ G, k ∉ S) : FrArr w' G v l :=
  ArrOf.kept (Dec := fun w => FrDec w G) h hk hd (fun cs a h => FrOk.kept h hk hd)
theorem info_frame : (Tryz.prog.info? 45).map (fun i => (i.zero, i.size, i.bytes)) = some (some (.agg #[.int .i64 0, .int .i64 0, .slice none 0 0]), 3, 40) := by kernel_rfl
theorem elem_frame : Elem Tryz.prog 80 45 3 40 := Elem.mk' Tryz.underlying80 info_frame rfl (by omega)
theorem FrArr.at {w : World} {G : List Nat} {A : Option Addr} {m c : Nat} {l : List FrameD} (h : FrArr w G (.slice A m c) l) {k : Nat} (hk : k < l.length) :
    ∃ g o B n d, A = some ⟨g, o, none⟩ ∧ g < w.heap.size ∧ g ∈ G ∧ w.cell? ⟨g, o + k * 3, none⟩ = some (.int .i64 l[k].kind) ∧ w.cell? ⟨g, o + k * 3 + 1, none⟩ = some (.int .i64 l[k].ver) ∧ w.cell? ⟨g, o + k * 3 + 2, none⟩ = some (.slice B n d) ∧ RdB w G (.slice B n d) l[k].body := by
  obtain ⟨A', m', c', e, h1, h2, h3, h4, h5⟩ := h
  injection e with e1 e2 e3
  subst e1 e2 e3
  obtain ⟨g, o, rfl, hg, hlt, hc⟩ := h5 (by rintro rfl; simp at hk)
  obtain ⟨cs, _, ⟨B, n, d, rfl, hr⟩, hcell⟩ := hc k _ (List.getElem?_eq_getElem hk)
  exact ⟨g, o, B, n, d, rfl, hlt, hg, by simpa using hcell 0 (by omega), by simpa [Nat.add_assoc] using hcell 1 (by omega), by simpa [Nat.add_assoc] using hcell 2 (by omega), hr⟩
theorem FrArr.len {w : World} {G : List Nat} {A : Option Addr} {m c : Nat} {l : List FrameD} (h : FrArr w G (.slice A m c) l) : l.length = m ∧ m ≤ c ∧ c ≤ maxLen ∧ (A = none → m = 0 ∧ c = 0) := by
  obtain ⟨A', m', c', e, h1, h2, h3, h4, h5⟩ := h
  injection e with e1 e2 e3
  subst e1 e2 e3
  exact ⟨h1, h2, h3, h4⟩
end
section
open Go.RowKit Go.ChangeShapes Go.WideShapes Go.Deep
set_option maxRecDepth 100000
def ScanAt (bs : List UInt8) (l : List FrameD) (k : Nat) : Prop := scanF bs = (l ++ (scanF (bs.drop k)).1, k + (scanF (bs.drop k)).2.1, (scanF (bs.drop k)).2.2)
theorem ScanAt.start (bs : List UInt8) : ScanAt bs [] 0 := by simp [ScanAt]
theorem ScanAt.step {bs : List UInt8} {l : List FrameD} {k n : Nat} {f : FrameD} (h : ScanAt bs l k) (hk : k < bs.length) (ht : takeF (bs.drop k) = (f, n, 0)) : ScanAt bs (l ++ [f]) (k + n) := by
  unfold ScanAt at *
  have hne : bs.drop k ≠ [] := by intro h0; have h0 := congrArg List.length h0; rw [List.length_drop, List.length_nil] at h0; omega
  rw [scanF_cons hne (by rw [ht]), ht, List.drop_drop] at h
  rw [h]
  simp [Nat.add_assoc]
theorem ScanAt.err {bs : List UInt8} {l : List FrameD} {k n : Nat} {f : FrameD} {e : Int} (h : ScanAt bs l k) (hk : k < bs.length) (ht : takeF (bs.drop k) = (f, n, e)) (he : e ≠ 0) : scanF bs = (l, k, e) := by
  unfold ScanAt at h
  have hne : bs.drop k ≠ [] := by intro h0; have h0 := congrArg List.length h0; rw [List.length_drop, List.length_nil] at h0; omega
  rw [scanF_err hne (by rw [ht]; exact he), ht] at h
  rw [h]; simp
theorem ScanAt.done {bs : List UInt8} {l : List FrameD} {k : Nat} (h : ScanAt bs l k) (hk : bs.length ≤ k) : scanF bs = (l, k, 0) := by
  unfold ScanAt at h
  rw [List.drop_of_length_le hk, scanF_nil] at h
  rw [h]; simp
theorem take_bound {bs : List UInt8} {k n : Nat} {f : FrameD} (ht : takeF (bs.drop k) = (f, n, 0)) (hk : k ≤ bs.length) : 16 ≤ n ∧ k + n ≤ bs.length := by
  have h := take_len (bs.drop k) (by rw [ht])
  rw [ht, List.length_drop] at h
  simp only at h
  omega
set_option maxHeartbeats 1600000 in
theorem Scan_any (w : World) (G : List Nat) (A : Option Addr) (m c : Nat) (bs : List UInt8) (h : RdB w G (.slice A m c) bs) (hl : m ≤ 1099511627776) :
    Calls Tryz.prog 33 #[.slice A m c] w fun e w' => ∃ v, e = .returned (.tuple #[v, .int .i64 (scanF bs).2.1, .int .i64 (scanF bs).2.2]) ∧ FrV w w' v (scanF bs).1 := by
  have hm := h.len
  have H := Lib.hid h
  have Hm := Lib.hid hm.1
  have hcm := hm.2.2.1
  have hmc := hm.2.1
  unfold maxLen at hcm
  clear h hm
  go_enter Tryz.func33, Tryz.ntmps33
  go_wp2
  go_loopg [5, 6] m (fun g out at' wr => ∃ k l, k ≤ m ∧ g = m - k ∧ at' = .int .i64 (k : Nat) ∧ ScanAt bs l k ∧ FrV w wr out l ∧ 16 * l.length ≤ k)
  case atStart => exact ⟨0, [], by omega, by omega, rfl, ScanAt.start _, LV.nil (Kept.refl _ _), by simp⟩
  case round =>
    obtain ⟨k, l, hk, rfl, rfl, hs, hv, hlk⟩ := hrel
    have Hs := Lib.hid hs
    have Hv := Lib.hid hv
    obtain ⟨css, G', hx⟩ := hv
    obtain ⟨B, cap, rfl, -, -⟩ := hx.own.form
    have Hx := Lib.hid hx
    have hll : l.length ≤ 68719476736 := by omega
    have Hlk := Lib.hid hlk
    generalize hln : l.length = ln at *
    have Hln := Lib.hid hln
    clear hs hx hlk hln
    by_cases hlt : k < m
    · have hkb : k < bs.length := by rw [Hm.out]; exact hlt
      obtain ⟨g, o, rfl, -⟩ := H.out.rd (by intro h0; have := u8s_nil h0; subst this; simp at hkb)
      have hne1 : ¬ c = k := by omega
      have hne2 : ¬ k = c := by omega
      have hne3 : ¬ (c : Int) = (k : Int) := by omega
      have hd := (H.out.kept Hv.out.kept (by simp)).drop k (by omega)
      have hd : RdB wr G (.slice (some ⟨g, o + k, none⟩) (m - k) (c - k)) (bs.drop k) := by simpa [Addr.add_lit] using hd
      have Hd := Lib.hid hd
      have Hkb := Lib.hid hkb
      clear hd hkb
      go_wp2_with fail
      refine (Take_any _ _ _ _ _ _ Hd.out).mono ?_
      rintro e w2 ⟨v2, rfl, hn2⟩
      obtain ⟨A2, n2, c2, rfl⟩ := hn2.1.form'
      obtain ⟨f, n, e, ht⟩ : ∃ f n e, takeF (bs.drop k) = (f, n, e) := ⟨_, _, _, rfl⟩
      have Ht := Lib.hid ht
      rw [ht] at hn2 ⊢
      dsimp only at hn2 ⊢
      have Hn2 := Lib.hid hn2
      clear hn2 ht
      by_cases he : e = 0
      · subst he
        have hb := take_bound Ht.out (Nat.le_of_lt Hkb.out)
        have hb1 := hb.1
        have hb2 : k + n ≤ m := by rw [← Hm.out]; exact hb.2
        clear hb
        have hs1 : IntKind.i64.wrap ((k : Int) + (n : Int)) = (k : Int) + n := IntWalk.i64_in _ (by omega)
        have hsrc := Rd.laid (w2.alloc (.cells #[.int .i64 f.kind, .int .i64 f.ver, .slice A2 n2 c2] 45)) [.int .i64 f.kind, .int .i64 f.ver, .slice A2 n2 c2] 45
        rw [World.size_alloc] at hsrc
        have Hsrc := Lib.hid hsrc
        clear hsrc
        go_wp2_with (at_builtin
                     refine wpList_app _ rfl (.tmp 27) (.tmp 29) 80 rfl elem_frame (by rfl) ((((Hx.out.go FrOk Hn2.out.2.1).go FrOk ((Kept.refl [] _).alloc _)).go FrOk ((Kept.refl [] _).alloc _)).own) (by rfl) Hsrc.out rfl (by simp [Value.oneCell']) (by unfold maxLen; rw [Hln.out]; omega) (by rw [Hln.out]; omega) ?_
                     intro v5 w5 ho5 hk5 hr5
                     have hk4 : Kept [] w2 ((w2.alloc (.cells #[.int .i64 f.kind, .int .i64 f.ver, .slice A2 n2 c2] 45)).alloc (.cells #[.int .i64 f.kind, .int .i64 f.ver, .slice A2 n2 c2] 45)) := ((Kept.refl [] w2).alloc _).alloc _
                     have hrd := (RdB.of_own Hn2.out.1).kept hk4 (by simp)
                     have hx5 := Hx.out.app FrOk (Hn2.out.2.1.trans hk4 (by simp)) (css' := [[.int .i64 f.kind, .int .i64 f.ver, .slice A2 n2 c2]]) (l' := [f]) (Decs.one' ⟨A2, n2, c2, rfl, hrd⟩)
                       (fun i hi => ⟨fun hm' => by have h1 := Hx.out.own.lt i hm'; have h2 := Hn2.out.2.2 i hi; omega, Nat.lt_of_lt_of_le (Hn2.out.1.lt i hi) hk4.size⟩) ho5 (by simp) (by simp) hk5 hr5
                     have Hx5 := Lib.hid hx5
                     obtain ⟨A5, n5, c5, rfl⟩ := ho5.form'
                     clear ho5 hk5 hr5 hk4 hrd hx5)
        go_roundg (m - (k + n))
        case measure => omega
        case rel => exact ⟨k + n, l ++ [f], hb2, rfl, by go_num, Hs.out.step Hkb.out Ht.out, ⟨_, _, Hx5.out⟩, by have := Hlk.out; rw [List.length_append, Hln.out]; simp; omega⟩
      · have hres := Lib.hid (Hs.out.err Hkb.out Ht.out he)
        have hne : (e != 0) = true := by simp [he]
        clear he
        go_wp2
        refine bodyPost_ret (by simp [results, Tryz.results33, go_sem]; rfl) rfl ?_
        rw [hres.out]
        exact ⟨_, rfl, (Hv.out.go FrOk Hn2.out.2.1).go FrOk ((Kept.refl [] _).alloc _)⟩
    · have hres := Lib.hid (Hs.out.done (by rw [Hm.out]; omega))
      go_wp2
      refine bodyPost_ret (by simp [results, Tryz.results33, go_sem]; rfl) rfl ?_
      rw [hres.out]
      exact ⟨_, rfl, Hv.out⟩
set_option maxHeartbeats 1600000 in
theorem rScan_any (w : World) (G : List Nat) (A : Option Addr) (m c : Nat) (bs : List UInt8) (h : RdB w G (.slice A m c) bs) (hl : m ≤ 1099511627776) :
    Calls Tryz.prog 37 #[.slice A m c] w fun e w' => ∃ v, e = .returned (.tuple #[v, .int .i64 (scanF bs).2.1, .int .i64 (scanF bs).2.2]) ∧ FrV w w' v (scanF bs).1 := by
  have hm := h.len
  have H := Lib.hid h
  have Hm := Lib.hid hm.1
  have hcm := hm.2.2.1
  have hmc := hm.2.1
  unfold maxLen at hcm
  clear h hm
  go_enter Tryz.func37, Tryz.ntmps37
  go_wp2
  go_loopg [5, 6] m (fun g out at' wr => ∃ k l, k ≤ m ∧ g = m - k ∧ at' = .int .i64 (k : Nat) ∧ ScanAt bs l k ∧ FrV w wr out l ∧ 16 * l.length ≤ k)
  case atStart => exact ⟨0, [], by omega, by omega, rfl, ScanAt.start _, LV.nil (Kept.refl _ _), by simp⟩
  case round =>
    obtain ⟨k, l, hk, rfl, rfl, hs, hv, hlk⟩ := hrel
    have Hs := Lib.hid hs
    have Hv := Lib.hid hv
    obtain ⟨css, G', hx⟩ := hv
    obtain ⟨B, cap, rfl, -, -⟩ := hx.own.form
    have Hx := Lib.hid hx
    have hll : l.length ≤ 68719476736 := by omega
    have Hlk := Lib.hid hlk
    generalize hln : l.length = ln at *
    have Hln := Lib.hid hln
    clear hs hx hlk hln
    by_cases hlt : k < m
    · have hkb : k < bs.length := by rw [Hm.out]; exact hlt
      obtain ⟨g, o, rfl, -⟩ := H.out.rd (by intro h0; have := u8s_nil h0; subst this; simp at hkb)
      have hne1 : ¬ c = k := by omega
      have hne2 : ¬ k = c := by omega
      have hne3 : ¬ (c : Int) = (k : Int) := by omega
      have hd := (H.out.kept Hv.out.kept (by simp)).drop k (by omega)
      have hd : RdB wr G (.slice (some ⟨g, o + k, none⟩) (m - k) (c - k)) (bs.drop k) := by simpa [Addr.add_lit] using hd
      have Hd := Lib.hid hd
      have Hkb := Lib.hid hkb
      clear hd hkb
      go_wp2_with fail
      refine (rTake_any _ _ _ _ _ _ Hd.out).mono ?_
      rintro e w2 ⟨v2, rfl, hn2⟩
      obtain ⟨A2, n2, c2, rfl⟩ := hn2.1.form'
      obtain ⟨f, n, e, ht⟩ : ∃ f n e, takeF (bs.drop k) = (f, n, e) := ⟨_, _, _, rfl⟩
      have Ht := Lib.hid ht
      rw [ht] at hn2 ⊢
      dsimp only at hn2 ⊢
      have Hn2 := Lib.hid hn2
      clear hn2 ht
      by_cases he : e = 0
      · subst he
        have hb := take_bound Ht.out (Nat.le_of_lt Hkb.out)
        have hb1 := hb.1
        have hb2 : k + n ≤ m := by rw [← Hm.out]; exact hb.2
        clear hb
        have hs1 : IntKind.i64.wrap ((k : Int) + (n : Int)) = (k : Int) + n := IntWalk.i64_in _ (by omega)
        have hsrc := Rd.laid (w2.alloc (.cells #[.int .i64 f.kind, .int .i64 f.ver, .slice A2 n2 c2] 45)) [.int .i64 f.kind, .int .i64 f.ver, .slice A2 n2 c2] 45
        rw [World.size_alloc] at hsrc
        have Hsrc := Lib.hid hsrc
        clear hsrc
        go_wp2_with (at_builtin
                     refine wpList_app _ rfl (.tmp 27) (.tmp 29) 80 rfl elem_frame (by rfl) ((((Hx.out.go FrOk Hn2.out.2.1).go FrOk ((Kept.refl [] _).alloc _)).go FrOk ((Kept.refl [] _).alloc _)).own) (by rfl) Hsrc.out rfl (by simp [Value.oneCell']) (by unfold maxLen; rw [Hln.out]; omega) (by rw [Hln.out]; omega) ?_
                     intro v5 w5 ho5 hk5 hr5
                     have hk4 : Kept [] w2 ((w2.alloc (.cells #[.int .i64 f.kind, .int .i64 f.ver, .slice A2 n2 c2] 45)).alloc (.cells #[.int .i64 f.kind, .int .i64 f.ver, .slice A2 n2 c2] 45)) := ((Kept.refl [] w2).alloc _).alloc _
                     have hrd := (RdB.of_own Hn2.out.1).kept hk4 (by simp)
                     have hx5 := Hx.out.app FrOk (Hn2.out.2.1.trans hk4 (by simp)) (css' := [[.int .i64 f.kind, .int .i64 f.ver, .slice A2 n2 c2]]) (l' := [f]) (Decs.one' ⟨A2, n2, c2, rfl, hrd⟩)
                       (fun i hi => ⟨fun hm' => by have h1 := Hx.out.own.lt i hm'; have h2 := Hn2.out.2.2 i hi; omega, Nat.lt_of_lt_of_le (Hn2.out.1.lt i hi) hk4.size⟩) ho5 (by simp) (by simp) hk5 hr5
                     have Hx5 := Lib.hid hx5
                     obtain ⟨A5, n5, c5, rfl⟩ := ho5.form'
                     clear ho5 hk5 hr5 hk4 hrd hx5)
        go_roundg (m - (k + n))
        case measure => omega
        case rel => exact ⟨k + n, l ++ [f], hb2, rfl, by go_num, Hs.out.step Hkb.out Ht.out, ⟨_, _, Hx5.out⟩, by have := Hlk.out; rw [List.length_append, Hln.out]; simp; omega⟩
      · have hres := Lib.hid (Hs.out.err Hkb.out Ht.out he)
        have hne : (e != 0) = true := by simp [he]
        clear he
        go_wp2
        refine bodyPost_ret (by simp [results, Tryz.results37, go_sem]; rfl) rfl ?_
        rw [hres.out]
        exact ⟨_, rfl, (Hv.out.go FrOk Hn2.out.2.1).go FrOk ((Kept.refl [] _).alloc _)⟩
    · have hres := Lib.hid (Hs.out.done (by rw [Hm.out]; omega))
      go_wp2
      refine bodyPost_ret (by simp [results, Tryz.results37, go_sem]; rfl) rfl ?_
      rw [hres.out]
      exact ⟨_, rfl, Hv.out⟩
end
section
open Go.RowKit Go.ChangeShapes Go.WideShapes Go.Deep
set_option maxRecDepth 100000
def IntDec (w : World) (G : List Nat) (cs : List Value) (n : Int) : Prop := cs = [.int .i64 n] ∧ -9223372036854775808 ≤ n ∧ n ≤ 9223372036854775807
abbrev IntArr (w : World) (G : List Nat) (v : Value) (l : List Int) : Prop := ArrOf w G 1 (fun w => IntDec w G) v l
theorem IntArr.kept {w w' : World} {G S : List Nat} {v : Value} {l : List Int} (h : IntArr w G v l) (hk : Kept S w w') (hd : ∀ k ∈ G, k ∉ S) : IntArr w' G v l :=
  ArrOf.kept (Dec := fun w => IntDec w G) h hk hd (fun cs a h => h)
theorem IntArr.at {w : World} {G : List Nat} {A : Option Addr} {m c : Nat} {l : List Int} (h : IntArr w G (.slice A m c) l) {k : Nat} (hk : k < l.length) :
    ∃ g o, A = some ⟨g, o, none⟩ ∧ g < w.heap.size ∧ g ∈ G ∧ w.cell? ⟨g, o + k, none⟩ = some (.int .i64 l[k]) ∧ -9223372036854775808 ≤ l[k] ∧ l[k] ≤ 9223372036854775807 := by
  obtain ⟨A', m', c', e, h1, h2, h3, h4, h5⟩ := h
  injection e with e1 e2 e3
  subst e1 e2 e3
  obtain ⟨g, o, rfl, hg, hlt, hc⟩ := h5 (by rintro rfl; simp at hk)
  obtain ⟨cs, _, ⟨rfl, hr⟩, hcell⟩ := hc k _ (List.getElem?_eq_getElem hk)
  exact ⟨g, o, rfl, hlt, hg, by simpa using hcell 0 (by omega), hr⟩
theorem ArrOf.lens {α : Type} {w : World} {G : List Nat} {n : Nat} {Dec : World → List Value → α → Prop} {A : Option Addr} {m c : Nat} {l : List α} (h : ArrOf w G n Dec (.slice A m c) l) : l.length = m ∧ m ≤ c ∧ c ≤ maxLen ∧ (A = none → m = 0 ∧ c = 0) := by
  obtain ⟨A', m', c', e, h1, h2, h3, h4, h5⟩ := h
  injection e with e1 e2 e3
  subst e1 e2 e3
  exact ⟨h1, h2, h3, h4⟩
theorem New.set {W w : World} {g n cap : Nat} {bs : List UInt8} (h : New W 5 1 (.slice (some ⟨g, 0, none⟩) n cap) n (u8s bs) w) (j : Nat) (b : UInt8) :
    New W 5 1 (.slice (some ⟨g, 0, none⟩) n cap) n (u8s (bs.set j b)) (w.setCell ⟨g, j, none⟩ (.int .u8 b.toNat)) := by
  have h1 := World.ownsRow.stored h.1 j (.int .u8 (b.toNat : Int))
  refine ⟨?_, h.2.1.trans ((Kept.refl [g] w).grown h1.2 (fun k hk => .inl (by injection hk with hk; simp [hk]))) (fun i hi => .inr ?_), h.2.2⟩
  · have e : u8s (bs.set j b) = (u8s bs).set j (.int .u8 (b.toNat : Int)) := by simp [u8s, List.map_set, u8v]
    rw [e]; exact h1.1
  · have hi : i = g := by simpa using hi
    rw [hi]; exact h.2.2 g (by simp [rowOf, Value.ownBlock])
theorem xor_u8 (a b : UInt8) : bits .xor .u8 (a.toNat : Int) (b.toNat : Int) = ((a ^^^ b).toNat : Int) := by
  rw [u8_xor_nat _ _ (by simpa using a.toNat_lt) (by simpa using b.toNat_lt)]; simp
end
section
open Go.RowKit Go.ChangeShapes Go.WideShapes Go.ChangeAt Go.Deep
set_option maxRecDepth 100000
section
variable {H : Type} {enc : TypeId × Value → H} {w : World}
set_option maxRecDepth 100000 in
theorem open_ints_arr {v : Value} {d : DataW H} {p : List MemPlace} {base : Nat} (hv : Value.okWide Tryz.prog w .any base 36 v) (h : DataW.Trod enc Tryz.prog w 0 (fun _ => true) true 36 v d p) :
    ∃ l : List Int, IntArr w (old w) v l ∧ (l.map fun _ => 0).sum + 1 ≤ Rows.uptoBulk d :=
  open_list (Dec := IntDec) Tryz.underlying36 (by kernel_rfl) (by omega) (fun {fuel cs x} h => by
    obtain ⟨a, e0, _, wa⟩ := DataW.trod_int Tryz.underlying3 h
    subst e0
    refine ⟨a, ⟨rfl, ?_⟩, Nat.zero_le _⟩
    simp [Lit.wf, IntKind.min, IntKind.max, IntKind.signed, IntKind.bits] at wa
    omega) hv h
set_option maxRecDepth 100000 in
theorem open_u8 {v : Value} {d : DataW H} {p : List MemPlace} {base : Nat} (hv : Value.okWide Tryz.prog w .any base 5 v) (h : DataW.Trod enc Tryz.prog w 0 (fun _ => true) true 5 v d p) : ∃ x : UInt8, v = .int .u8 x.toNat := by
  obtain ⟨n, rfl, rfl, rfl, hw⟩ := open_int Tryz.underlying5 hv h
  simp [Lit.wf, IntKind.min, IntKind.max, IntKind.signed, IntKind.bits] at hw
  refine ⟨UInt8.ofNat n.toNat, ?_⟩
  congr 1
  simp only [UInt8.toNat_ofNat']
  omega
end
end
end Go.Proofs.YtkacghjglicjiaaGreat
