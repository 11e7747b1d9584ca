
/-
  The contracts of tuple.end and tuple.Parse at texts that a program wrote.
-/
import Derived.Test.YtflbeipnnmeiaaaDoorTupG
namespace Go.Proofs.YtflbeipnnmeiaaaDoor
open Go.RowKit Go.ChangeShapes Go.WideShapes Go.ChangeAt Go.Deep
set_option linter.unusedVariables false
set_option maxRecDepth 100000

theorem Cut_at (w : World) (m : Int) (l x y : List UInt8) (c : UInt8) (hl : l.length ≤ 1000) (hm : w.cell? ⟨0, 0, none⟩ = some (.int .i64 m)) (hc : Lib.cut l [c] = (x, y, true)) :
    Calls Tryd.prog 45 #[.string (strOf l), .string ⟨#[c]⟩] w fun e w' => e = .returned (.tuple #[.string (strOf x), .string (strOf y), .bool true]) ∧ Kept [] w w' := by
  refine (Tryd.strings_Cut (strOf l) ⟨#[c]⟩ m w (by rw [strOf_size]; omega) hm).mono ?_
  rintro e w' ⟨rfl, n, rfl⟩
  refine ⟨?_, (Kept.refl [] w).drewN n⟩
  rw [strOf_list, show (⟨#[c]⟩ : ByteArray).data.toList = [c] from rfl, hc]
  rfl
theorem m_kept {w w' : World} {m : Int} (hm : w.cell? ⟨0, 0, none⟩ = some (.int .i64 m)) (hk : Kept [] w w') : w'.cell? ⟨0, 0, none⟩ = some (.int .i64 m) :=
  (hk.cell (p := ⟨0, 0, none⟩) (World.block_lt_of_cell? w ⟨0, 0, none⟩ hm) (by simp)).trans hm
def portF (p : Int) : Bool := decide (0 ≤ p ∧ p ≤ 65535)
set_option maxHeartbeats 3200000 in
theorem end_good (w : World) (a : UInt32) (p : Int) (hp : inI p) (m : Int) (hm : w.cell? ⟨0, 0, none⟩ = some (.int .i64 m)) (ht : PowTab w) :
    Calls Tryd.prog 46 #[.string (strOf (addrF a ++ (58 :: Lib.itoa p)))] w fun e w' => e = .returned (.tuple #[.int .u32 (a.toNat : Nat), .int .i64 p, .bool (portF p)]) ∧ Kept [] w w' := by
  have HT := Lib.hid (fun w' (hk : Kept [] w w') => tab_kept ht (g := 1) (by kernel_rfl) hk (by simp))
  have HM := Lib.hid (fun w' (hk : Kept [] w w') => m_kept hm hk)
  have hl1 := addrF_len a
  have hl2 := itoa_len hp
  have HC := Lib.hid (Cut_at w m _ _ _ _ (by simp only [List.length_append, List.length_cons]; omega) hm (end_cut a p))
  have HP := Lib.hid hp
  obtain ⟨s, hs⟩ : ∃ s, strOf (addrF a ++ (58 :: Lib.itoa p)) = s := ⟨_, rfl⟩
  obtain ⟨sa, hsa⟩ : ∃ s, strOf (addrF a) = s := ⟨_, rfl⟩
  obtain ⟨sp, hsp⟩ : ∃ s, strOf (Lib.itoa p) = s := ⟨_, rfl⟩
  rw [hs, hsa, hsp] at HC
  rw [hs]
  have HA := Lib.hid (fun (w' : World) (hk : Kept [] w w') => ParseAddr_good w' a m (HM.out _ hk) (HT.out _ hk))
  have HB := Lib.hid (fun (w' : World) (hk : Kept [] w w') => number_good w' p 65535 HP.out (HT.out _ hk))
  rw [hsa] at HA
  rw [hsp] at HB
  clear hs hsa hsp hl1 hl2 hp hm ht
  cases hd : portF p
  all_goals
    have HD := Lib.hid (show decide (0 ≤ p ∧ p ≤ 65535) = _ from hd)
    clear hd
    go_enter Tryd.func46, Tryd.ntmps46
    go_wp2_with (first
      | (go_at_call 45
         go_must (refine HC.out.mono ?_)
         go_must (rintro e w1 ⟨rfl, k1⟩)
         go_must (have K := Lib.hid k1)
         go_must (clear k1))
      | (go_at_call 21
         go_must (refine (HA.out _ K.out).mono ?_)
         go_must (rintro e w1 ⟨rfl, k1⟩)
         go_must (have K := Lib.hid (K.out.trans k1 (by simp)))
         go_must (clear k1))
      | (go_at_call 43
         go_must (refine (HB.out _ K.out).mono ?_)
         go_must (rintro e w1 ⟨rfl, k1⟩)
         go_must (rw [HD.out])
         go_must (have K := Lib.hid (K.out.trans k1 (by simp)))
         go_must (clear k1)))
    go_ret3
    exact ⟨rfl, K.out⟩
/-- a protocol, as its name says -/
def protoN (n : Int) : Int := if n = 6 then 6 else if n = 17 then 17 else 0
/-- what a tuple's text is read as -/
def rdText (t : TupD) : TupD × Bool := if mayT t then (t, true) else (default, false)
/-- what the calls of Parse come to -/
structure PF (w : World) (T : TupD) (nm s sr s1 s2 : ByteArray) (d1 d2 : Bool) : Prop where
  c1 : ∀ w', Kept [] w w' → Calls Tryd.prog 45 #[.string s, .string ⟨#[32]⟩] w' fun e w'' => e = .returned (.tuple #[.string nm, .string sr, .bool true]) ∧ Kept [] w' w''
  c2 : ∀ w', Kept [] w w' → Calls Tryd.prog 45 #[.string sr, .string ⟨#[62]⟩] w' fun e w'' => e = .returned (.tuple #[.string s1, .string s2, .bool true]) ∧ Kept [] w' w''
  e1 : ∀ w', Kept [] w w' → Calls Tryd.prog 46 #[.string s1] w' fun e w'' => e = .returned (.tuple #[.int .u32 (T.src.toNat : Nat), .int .i64 T.sport, .bool d1]) ∧ Kept [] w' w''
  e2 : ∀ w', Kept [] w w' → Calls Tryd.prog 46 #[.string s2] w' fun e w'' => e = .returned (.tuple #[.int .u32 (T.dst.toNat : Nat), .int .i64 T.dport, .bool d2]) ∧ Kept [] w' w''
set_option maxHeartbeats 6400000 in
theorem Parse_6_f (w : World) (T : TupD) (nm s sr s1 s2 : ByteArray) (d2 : Bool) (F : Hid (PF w T nm s sr s1 s2 false d2)) (HQ : Hid (T.proto = 6)) (b1 : (nm.toList == [116, 99, 112]) = true) (b2 : (nm.toList == [117, 100, 112]) = false) :
    Calls Tryd.prog 24 #[.string s] w fun e w' => e = .returned (.tuple #[.agg #[.int .u32 0, .int .u32 0, .int .i64 0, .int .i64 0, .int .i64 0], .bool false]) ∧ Kept [] w w' := by
  have K := Lib.hid ((Kept.refl [] w).alloc (.cells #[.int .u32 0, .int .u32 0, .int .i64 0, .int .i64 0, .int .i64 0] 24))
  have B := Lib.hid (show Blk (w.alloc (.cells #[.int .u32 0, .int .u32 0, .int .i64 0, .int .i64 0, .int .i64 0] 24)) w.heap.size 24 #[.int .u32 0, .int .u32 0, .int .i64 0, .int .i64 0, .int .i64 0] from by (repeat (first | (apply Blk.new'; simp; done) | apply Blk.alloc | apply Blk.drew)))
  have htok : True := trivial
  go_enter Tryd.func24, Tryd.ntmps24
  go_wp2_with (first
    | (go_at_call 45
       first
         | (with_reducible refine (F.out.c1 _ K.out).mono ?_
            go_must (rintro e w1 ⟨rfl, k1⟩)
            go_must (have B := Lib.hid (B.out.kept k1 (by simp)))
            go_must (have K := Lib.hid (K.out.trans k1 (by simp)))
            go_must (clear k1))
         | (go_must (refine (F.out.c2 _ K.out).mono ?_)
            go_must (rintro e w2 ⟨rfl, k1⟩)
            go_must (have B := Lib.hid (B.out.kept k1 (by simp)))
            go_must (have K := Lib.hid (K.out.trans k1 (by simp)))
            go_must (have hz2 := K.out.size)
            go_must (have hb2 := B.out.lt)
            go_must (clear k1)))
    | (go_at_call 46
       have _t := htok
       go_must (refine (F.out.e1 _ (K.out.alloc _)).mono ?_)
       go_must (rintro e w3 ⟨rfl, k1⟩)
       go_must (have X := Lib.hid (Blk.kept (Blk.new' w2 rfl 24 #[.int .u32 0, .int .u32 0, .int .i64 6, .int .i64 0, .int .i64 0]) k1 (by simp)))
       go_must (have B := Lib.hid ((B.out.alloc _).kept k1 (by simp)))
       go_must (have K := Lib.hid ((K.out.alloc _).trans k1 (by simp)))
       go_must (have hcx := X.out.cell)
       go_must (have hfx := X.out.frozen)
       go_must (clear k1 htok))
    | (go_at_call 46
       go_must (clear hcx hfx)
       go_must (have hk5 : Kept [w2.heap.size] w3 ((w3.setCell ⟨w2.heap.size, 0, none⟩ (.int .u32 (T.src.toNat : Nat))).setCell ⟨w2.heap.size, 3, none⟩ (.int .i64 T.sport)) := ((Kept.refl _ _).setCell (.inl (by simp)) _).setCell (.inl (by simp)) _)
       go_must (have K5 := Lib.hid (K.out.trans hk5 (fun i hi => .inr (by simp at hi; omega))))
       go_must (refine (F.out.e2 _ K5.out).mono ?_)
       go_must (rintro e w4 ⟨rfl, k1⟩)
       go_must (have X := Lib.hid (((X.out.set 0 (.int .u32 (T.src.toNat : Nat))).set 3 (.int .i64 T.sport)).kept k1 (by simp)))
       go_must (have B := Lib.hid ((B.out.kept hk5 (by simp; omega)).kept k1 (by simp)))
       go_must (have K := Lib.hid (K5.out.trans k1 (by simp)))
       go_must (have hcx := X.out.cell)
       go_must (have hfx := X.out.frozen)
       go_must (clear k1 hk5 K5))
    | (have _b := hfx
       clear hfx
       have hk5 : Kept [w2.heap.size] w4 ((w4.setCell ⟨w2.heap.size, 1, none⟩ (.int .u32 (T.dst.toNat : Nat))).setCell ⟨w2.heap.size, 4, none⟩ (.int .i64 T.dport)) := ((Kept.refl _ _).setCell (.inl (by simp)) _).setCell (.inl (by simp)) _
       have B := Lib.hid (B.out.kept hk5 (by simp; omega))
       have K := Lib.hid (K.out.trans hk5 (fun i hi => .inr (by simp at hi; omega)))
       clear hk5
       ((with_reducible show wpList _ _ _ ({ dst := none, op := Op.store 24 (.tmp 2) (.tmp 68), type := _, pos := _, after := _, guard := _ } :: _) _ _); refine wpList_put (t := 24) rfl 24 (.tmp 2) (.tmp 68) rfl _ (by rfl) (by rfl) (by exact B.out) (by rfl) (by kernel_rfl) (by simp [Value.oneCell']) ?_; intro w9 hb9 hk9; have Hb9 := Lib.hid hb9; have Hk9 := Lib.hid hk9; clear hb9 hk9)))
  refine bodyPost_ret (results_cell1 (t := 24) Tryd.results24 (by rfl) Hb9.out _ Tryd.underlying24 rfl (by kernel_rfl)) rfl ?_
  exact ⟨rfl, K.out.trans Hk9.out (fun i hi => .inr (by simp at hi; omega))⟩
set_option maxHeartbeats 6400000 in
theorem Parse_6_tf (w : World) (T : TupD) (nm s sr s1 s2 : ByteArray) (F : Hid (PF w T nm s sr s1 s2 true false)) (HQ : Hid (T.proto = 6)) (b1 : (nm.toList == [116, 99, 112]) = true) (b2 : (nm.toList == [117, 100, 112]) = false) :
    Calls Tryd.prog 24 #[.string s] w fun e w' => e = .returned (.tuple #[.agg #[.int .u32 0, .int .u32 0, .int .i64 0, .int .i64 0, .int .i64 0], .bool false]) ∧ Kept [] w w' := by
  have K := Lib.hid ((Kept.refl [] w).alloc (.cells #[.int .u32 0, .int .u32 0, .int .i64 0, .int .i64 0, .int .i64 0] 24))
  have B := Lib.hid (show Blk (w.alloc (.cells #[.int .u32 0, .int .u32 0, .int .i64 0, .int .i64 0, .int .i64 0] 24)) w.heap.size 24 #[.int .u32 0, .int .u32 0, .int .i64 0, .int .i64 0, .int .i64 0] from by (repeat (first | (apply Blk.new'; simp; done) | apply Blk.alloc | apply Blk.drew)))
  have htok : True := trivial
  go_enter Tryd.func24, Tryd.ntmps24
  go_wp2_with (first
    | (go_at_call 45
       first
         | (with_reducible refine (F.out.c1 _ K.out).mono ?_
            go_must (rintro e w1 ⟨rfl, k1⟩)
            go_must (have B := Lib.hid (B.out.kept k1 (by simp)))
            go_must (have K := Lib.hid (K.out.trans k1 (by simp)))
            go_must (clear k1))
         | (go_must (refine (F.out.c2 _ K.out).mono ?_)
            go_must (rintro e w2 ⟨rfl, k1⟩)
            go_must (have B := Lib.hid (B.out.kept k1 (by simp)))
            go_must (have K := Lib.hid (K.out.trans k1 (by simp)))
            go_must (have hz2 := K.out.size)
            go_must (have hb2 := B.out.lt)
            go_must (clear k1)))
    | (go_at_call 46
       have _t := htok
       go_must (refine (F.out.e1 _ (K.out.alloc _)).mono ?_)
       go_must (rintro e w3 ⟨rfl, k1⟩)
       go_must (have X := Lib.hid (Blk.kept (Blk.new' w2 rfl 24 #[.int .u32 0, .int .u32 0, .int .i64 6, .int .i64 0, .int .i64 0]) k1 (by simp)))
       go_must (have B := Lib.hid ((B.out.alloc _).kept k1 (by simp)))
       go_must (have K := Lib.hid ((K.out.alloc _).trans k1 (by simp)))
       go_must (have hcx := X.out.cell)
       go_must (have hfx := X.out.frozen)
       go_must (clear k1 htok))
    | (go_at_call 46
       go_must (clear hcx hfx)
       go_must (have hk5 : Kept [w2.heap.size] w3 ((w3.setCell ⟨w2.heap.size, 0, none⟩ (.int .u32 (T.src.toNat : Nat))).setCell ⟨w2.heap.size, 3, none⟩ (.int .i64 T.sport)) := ((Kept.refl _ _).setCell (.inl (by simp)) _).setCell (.inl (by simp)) _)
       go_must (have K5 := Lib.hid (K.out.trans hk5 (fun i hi => .inr (by simp at hi; omega))))
       go_must (refine (F.out.e2 _ K5.out).mono ?_)
       go_must (rintro e w4 ⟨rfl, k1⟩)
       go_must (have X := Lib.hid (((X.out.set 0 (.int .u32 (T.src.toNat : Nat))).set 3 (.int .i64 T.sport)).kept k1 (by simp)))
       go_must (have B := Lib.hid ((B.out.kept hk5 (by simp; omega)).kept k1 (by simp)))
       go_must (have K := Lib.hid (K5.out.trans k1 (by simp)))
       go_must (have hcx := X.out.cell)
       go_must (have hfx := X.out.frozen)
       go_must (clear k1 hk5 K5))
    | (have _b := hfx
       clear hfx
       have hk5 : Kept [w2.heap.size] w4 ((w4.setCell ⟨w2.heap.size, 1, none⟩ (.int .u32 (T.dst.toNat : Nat))).setCell ⟨w2.heap.size, 4, none⟩ (.int .i64 T.dport)) := ((Kept.refl _ _).setCell (.inl (by simp)) _).setCell (.inl (by simp)) _
       have B := Lib.hid (B.out.kept hk5 (by simp; omega))
       have K := Lib.hid (K.out.trans hk5 (fun i hi => .inr (by simp at hi; omega)))
       clear hk5
       ((with_reducible show wpList _ _ _ ({ dst := none, op := Op.store 24 (.tmp 2) (.tmp 68), type := _, pos := _, after := _, guard := _ } :: _) _ _); refine wpList_put (t := 24) rfl 24 (.tmp 2) (.tmp 68) rfl _ (by rfl) (by rfl) (by exact B.out) (by rfl) (by kernel_rfl) (by simp [Value.oneCell']) ?_; intro w9 hb9 hk9; have Hb9 := Lib.hid hb9; have Hk9 := Lib.hid hk9; clear hb9 hk9)))
  refine bodyPost_ret (results_cell1 (t := 24) Tryd.results24 (by rfl) Hb9.out _ Tryd.underlying24 rfl (by kernel_rfl)) rfl ?_
  exact ⟨rfl, K.out.trans Hk9.out (fun i hi => .inr (by simp at hi; omega))⟩
set_option maxHeartbeats 6400000 in
theorem Parse_6_ttf (w : World) (T : TupD) (nm s sr s1 s2 : ByteArray) (F : Hid (PF w T nm s sr s1 s2 true true)) (HQ : Hid (T.proto = 6)) (HMT : Hid (mayT T = false)) (b1 : (nm.toList == [116, 99, 112]) = true) (b2 : (nm.toList == [117, 100, 112]) = false) :
    Calls Tryd.prog 24 #[.string s] w fun e w' => e = .returned (.tuple #[.agg #[.int .u32 0, .int .u32 0, .int .i64 0, .int .i64 0, .int .i64 0], .bool false]) ∧ Kept [] w w' := by
  have K := Lib.hid ((Kept.refl [] w).alloc (.cells #[.int .u32 0, .int .u32 0, .int .i64 0, .int .i64 0, .int .i64 0] 24))
  have B := Lib.hid (show Blk (w.alloc (.cells #[.int .u32 0, .int .u32 0, .int .i64 0, .int .i64 0, .int .i64 0] 24)) w.heap.size 24 #[.int .u32 0, .int .u32 0, .int .i64 0, .int .i64 0, .int .i64 0] from by (repeat (first | (apply Blk.new'; simp; done) | apply Blk.alloc | apply Blk.drew)))
  have htok : True := trivial
  have HMY := Lib.hid (fun w' => tMay_any w' T)
  rw [HQ.out, HMT.out] at HMY
  go_enter Tryd.func24, Tryd.ntmps24
  go_wp2_with (first
    | (go_at_call 45
       first
         | (with_reducible refine (F.out.c1 _ K.out).mono ?_
            go_must (rintro e w1 ⟨rfl, k1⟩)
            go_must (have B := Lib.hid (B.out.kept k1 (by simp)))
            go_must (have K := Lib.hid (K.out.trans k1 (by simp)))
            go_must (clear k1))
         | (go_must (refine (F.out.c2 _ K.out).mono ?_)
            go_must (rintro e w2 ⟨rfl, k1⟩)
            go_must (have B := Lib.hid (B.out.kept k1 (by simp)))
            go_must (have K := Lib.hid (K.out.trans k1 (by simp)))
            go_must (have hz2 := K.out.size)
            go_must (have hb2 := B.out.lt)
            go_must (clear k1)))
    | (go_at_call 46
       have _t := htok
       go_must (refine (F.out.e1 _ (K.out.alloc _)).mono ?_)
       go_must (rintro e w3 ⟨rfl, k1⟩)
       go_must (have X := Lib.hid (Blk.kept (Blk.new' w2 rfl 24 #[.int .u32 0, .int .u32 0, .int .i64 6, .int .i64 0, .int .i64 0]) k1 (by simp)))
       go_must (have B := Lib.hid ((B.out.alloc _).kept k1 (by simp)))
       go_must (have K := Lib.hid ((K.out.alloc _).trans k1 (by simp)))
       go_must (have hcx := X.out.cell)
       go_must (have hfx := X.out.frozen)
       go_must (clear k1 htok))
    | (go_at_call 46
       go_must (clear hcx hfx)
       go_must (have hk5 : Kept [w2.heap.size] w3 ((w3.setCell ⟨w2.heap.size, 0, none⟩ (.int .u32 (T.src.toNat : Nat))).setCell ⟨w2.heap.size, 3, none⟩ (.int .i64 T.sport)) := ((Kept.refl _ _).setCell (.inl (by simp)) _).setCell (.inl (by simp)) _)
       go_must (have K5 := Lib.hid (K.out.trans hk5 (fun i hi => .inr (by simp at hi; omega))))
       go_must (refine (F.out.e2 _ K5.out).mono ?_)
       go_must (rintro e w4 ⟨rfl, k1⟩)
       go_must (have X := Lib.hid (((X.out.set 0 (.int .u32 (T.src.toNat : Nat))).set 3 (.int .i64 T.sport)).kept k1 (by simp)))
       go_must (have B := Lib.hid ((B.out.kept hk5 (by simp; omega)).kept k1 (by simp)))
       go_must (have K := Lib.hid (K5.out.trans k1 (by simp)))
       go_must (have hcx := X.out.cell)
       go_must (have hfx := X.out.frozen)
       go_must (clear k1 hk5 K5))
    | (go_at_call 8
       go_must (refine (HMY.out _).mono ?_)
       go_must (rintro e w6 ⟨rfl, k1⟩)
       go_must (clear hcx hfx)
       go_must (have hk5 : Kept [w2.heap.size] w4 ((w4.setCell ⟨w2.heap.size, 1, none⟩ (.int .u32 (T.dst.toNat : Nat))).setCell ⟨w2.heap.size, 4, none⟩ (.int .i64 T.dport)) := ((Kept.refl _ _).setCell (.inl (by simp)) _).setCell (.inl (by simp)) _)
       go_must (have X := Lib.hid (((X.out.set 1 (.int .u32 (T.dst.toNat : Nat))).set 4 (.int .i64 T.dport)).kept k1 (by simp)))
       go_must (have B := Lib.hid ((B.out.kept hk5 (by simp; omega)).kept k1 (by simp)))
       go_must (have K := Lib.hid ((K.out.trans hk5 (fun i hi => .inr (by simp at hi; omega))).trans k1 (by simp)))
       go_must (have hcx := X.out.cell)
       go_must (clear k1 hk5))
    | ((with_reducible show wpList _ _ _ ({ dst := none, op := Op.store 24 (.tmp 2) (.tmp 68), type := _, pos := _, after := _, guard := _ } :: _) _ _); refine wpList_put (t := 24) rfl 24 (.tmp 2) (.tmp 68) rfl _ (by rfl) (by rfl) (by exact B.out) (by rfl) (by kernel_rfl) (by simp [Value.oneCell']) ?_; intro w9 hb9 hk9; have Hb9 := Lib.hid hb9; have Hk9 := Lib.hid hk9; clear hb9 hk9))
  refine bodyPost_ret (results_cell1 (t := 24) Tryd.results24 (by rfl) Hb9.out _ Tryd.underlying24 rfl (by kernel_rfl)) rfl ?_
  exact ⟨rfl, K.out.trans Hk9.out (fun i hi => .inr (by simp at hi; omega))⟩
set_option maxHeartbeats 6400000 in
theorem Parse_6_ttt (w : World) (T : TupD) (nm s sr s1 s2 : ByteArray) (F : Hid (PF w T nm s sr s1 s2 true true)) (HQ : Hid (T.proto = 6)) (HMT : Hid (mayT T = true)) (b1 : (nm.toList == [116, 99, 112]) = true) (b2 : (nm.toList == [117, 100, 112]) = false) :
    Calls Tryd.prog 24 #[.string s] w fun e w' => e = .returned (.tuple #[.agg #[.int .u32 (T.src.toNat : Nat), .int .u32 (T.dst.toNat : Nat), .int .i64 T.proto, .int .i64 T.sport, .int .i64 T.dport], .bool true]) ∧ Kept [] w w' := by
  have K := Lib.hid ((Kept.refl [] w).alloc (.cells #[.int .u32 0, .int .u32 0, .int .i64 0, .int .i64 0, .int .i64 0] 24))
  have B := Lib.hid (show Blk (w.alloc (.cells #[.int .u32 0, .int .u32 0, .int .i64 0, .int .i64 0, .int .i64 0] 24)) w.heap.size 24 #[.int .u32 0, .int .u32 0, .int .i64 0, .int .i64 0, .int .i64 0] from by (repeat (first | (apply Blk.new'; simp; done) | apply Blk.alloc | apply Blk.drew)))
  have htok : True := trivial
  have HMY := Lib.hid (fun w' => tMay_any w' T)
  rw [HQ.out, HMT.out] at HMY
  go_enter Tryd.func24, Tryd.ntmps24
  go_wp2_with (first
    | (go_at_call 45
       first
         | (with_reducible refine (F.out.c1 _ K.out).mono ?_
            go_must (rintro e w1 ⟨rfl, k1⟩)
            go_must (have B := Lib.hid (B.out.kept k1 (by simp)))
            go_must (have K := Lib.hid (K.out.trans k1 (by simp)))
            go_must (clear k1))
         | (go_must (refine (F.out.c2 _ K.out).mono ?_)
            go_must (rintro e w2 ⟨rfl, k1⟩)
            go_must (have B := Lib.hid (B.out.kept k1 (by simp)))
            go_must (have K := Lib.hid (K.out.trans k1 (by simp)))
            go_must (have hz2 := K.out.size)
            go_must (have hb2 := B.out.lt)
            go_must (clear k1)))
    | (go_at_call 46
       have _t := htok
       go_must (refine (F.out.e1 _ (K.out.alloc _)).mono ?_)
       go_must (rintro e w3 ⟨rfl, k1⟩)
       go_must (have X := Lib.hid (Blk.kept (Blk.new' w2 rfl 24 #[.int .u32 0, .int .u32 0, .int .i64 6, .int .i64 0, .int .i64 0]) k1 (by simp)))
       go_must (have B := Lib.hid ((B.out.alloc _).kept k1 (by simp)))
       go_must (have K := Lib.hid ((K.out.alloc _).trans k1 (by simp)))
       go_must (have hcx := X.out.cell)
       go_must (have hfx := X.out.frozen)
       go_must (clear k1 htok))
    | (go_at_call 46
       go_must (clear hcx hfx)
       go_must (have hk5 : Kept [w2.heap.size] w3 ((w3.setCell ⟨w2.heap.size, 0, none⟩ (.int .u32 (T.src.toNat : Nat))).setCell ⟨w2.heap.size, 3, none⟩ (.int .i64 T.sport)) := ((Kept.refl _ _).setCell (.inl (by simp)) _).setCell (.inl (by simp)) _)
       go_must (have K5 := Lib.hid (K.out.trans hk5 (fun i hi => .inr (by simp at hi; omega))))
       go_must (refine (F.out.e2 _ K5.out).mono ?_)
       go_must (rintro e w4 ⟨rfl, k1⟩)
       go_must (have X := Lib.hid (((X.out.set 0 (.int .u32 (T.src.toNat : Nat))).set 3 (.int .i64 T.sport)).kept k1 (by simp)))
       go_must (have B := Lib.hid ((B.out.kept hk5 (by simp; omega)).kept k1 (by simp)))
       go_must (have K := Lib.hid (K5.out.trans k1 (by simp)))
       go_must (have hcx := X.out.cell)
       go_must (have hfx := X.out.frozen)
       go_must (clear k1 hk5 K5))
    | (go_at_call 8
       go_must (refine (HMY.out _).mono ?_)
       go_must (rintro e w6 ⟨rfl, k1⟩)
       go_must (clear hcx hfx)
       go_must (have hk5 : Kept [w2.heap.size] w4 ((w4.setCell ⟨w2.heap.size, 1, none⟩ (.int .u32 (T.dst.toNat : Nat))).setCell ⟨w2.heap.size, 4, none⟩ (.int .i64 T.dport)) := ((Kept.refl _ _).setCell (.inl (by simp)) _).setCell (.inl (by simp)) _)
       go_must (have X := Lib.hid (((X.out.set 1 (.int .u32 (T.dst.toNat : Nat))).set 4 (.int .i64 T.dport)).kept k1 (by simp)))
       go_must (have B := Lib.hid ((B.out.kept hk5 (by simp; omega)).kept k1 (by simp)))
       go_must (have K := Lib.hid ((K.out.trans hk5 (fun i hi => .inr (by simp at hi; omega))).trans k1 (by simp)))
       go_must (have hcx := X.out.cell)
       go_must (clear k1 hk5))
    | ((with_reducible show wpList _ _ _ ({ dst := none, op := Op.store 24 (.tmp 2) (.tmp 69), type := _, pos := _, after := _, guard := _ } :: _) _ _); refine wpList_put (t := 24) rfl 24 (.tmp 2) (.tmp 69) rfl _ (by rfl) (by rfl) (by exact B.out) (by rfl) (by kernel_rfl) (by simp [Value.oneCell']) ?_; intro w9 hb9 hk9; have Hb9 := Lib.hid hb9; have Hk9 := Lib.hid hk9; clear hb9 hk9))
  refine bodyPost_ret (results_cell1 (t := 24) Tryd.results24 (by rfl) Hb9.out _ Tryd.underlying24 rfl (by kernel_rfl)) rfl ?_
  exact ⟨by rw [HQ.out]; rfl, K.out.trans Hk9.out (fun i hi => .inr (by simp at hi; omega))⟩
set_option maxHeartbeats 6400000 in
theorem Parse_17_f (w : World) (T : TupD) (nm s sr s1 s2 : ByteArray) (d2 : Bool) (F : Hid (PF w T nm s sr s1 s2 false d2)) (HQ : Hid (T.proto = 17)) (b1 : (nm.toList == [116, 99, 112]) = false) (b2 : (nm.toList == [117, 100, 112]) = true) :
    Calls Tryd.prog 24 #[.string s] w fun e w' => e = .returned (.tuple #[.agg #[.int .u32 0, .int .u32 0, .int .i64 0, .int .i64 0, .int .i64 0], .bool false]) ∧ Kept [] w w' := by
  have K := Lib.hid ((Kept.refl [] w).alloc (.cells #[.int .u32 0, .int .u32 0, .int .i64 0, .int .i64 0, .int .i64 0] 24))
  have B := Lib.hid (show Blk (w.alloc (.cells #[.int .u32 0, .int .u32 0, .int .i64 0, .int .i64 0, .int .i64 0] 24)) w.heap.size 24 #[.int .u32 0, .int .u32 0, .int .i64 0, .int .i64 0, .int .i64 0] from by (repeat (first | (apply Blk.new'; simp; done) | apply Blk.alloc | apply Blk.drew)))
  have htok : True := trivial
  go_enter Tryd.func24, Tryd.ntmps24
  go_wp2_with (first
    | (go_at_call 45
       first
         | (with_reducible refine (F.out.c1 _ K.out).mono ?_
            go_must (rintro e w1 ⟨rfl, k1⟩)
            go_must (have B := Lib.hid (B.out.kept k1 (by simp)))
            go_must (have K := Lib.hid (K.out.trans k1 (by simp)))
            go_must (clear k1))
         | (go_must (refine (F.out.c2 _ K.out).mono ?_)
            go_must (rintro e w2 ⟨rfl, k1⟩)
            go_must (have B := Lib.hid (B.out.kept k1 (by simp)))
            go_must (have K := Lib.hid (K.out.trans k1 (by simp)))
            go_must (have hz2 := K.out.size)
            go_must (have hb2 := B.out.lt)
            go_must (clear k1)))
    | (go_at_call 46
       have _t := htok
       go_must (refine (F.out.e1 _ (K.out.alloc _)).mono ?_)
       go_must (rintro e w3 ⟨rfl, k1⟩)
       go_must (have X := Lib.hid (Blk.kept (Blk.new' w2 rfl 24 #[.int .u32 0, .int .u32 0, .int .i64 17, .int .i64 0, .int .i64 0]) k1 (by simp)))
       go_must (have B := Lib.hid ((B.out.alloc _).kept k1 (by simp)))
       go_must (have K := Lib.hid ((K.out.alloc _).trans k1 (by simp)))
       go_must (have hcx := X.out.cell)
       go_must (have hfx := X.out.frozen)
       go_must (clear k1 htok))
    | (go_at_call 46
       go_must (clear hcx hfx)
       go_must (have hk5 : Kept [w2.heap.size] w3 ((w3.setCell ⟨w2.heap.size, 0, none⟩ (.int .u32 (T.src.toNat : Nat))).setCell ⟨w2.heap.size, 3, none⟩ (.int .i64 T.sport)) := ((Kept.refl _ _).setCell (.inl (by simp)) _).setCell (.inl (by simp)) _)
       go_must (have K5 := Lib.hid (K.out.trans hk5 (fun i hi => .inr (by simp at hi; omega))))
       go_must (refine (F.out.e2 _ K5.out).mono ?_)
       go_must (rintro e w4 ⟨rfl, k1⟩)
       go_must (have X := Lib.hid (((X.out.set 0 (.int .u32 (T.src.toNat : Nat))).set 3 (.int .i64 T.sport)).kept k1 (by simp)))
       go_must (have B := Lib.hid ((B.out.kept hk5 (by simp; omega)).kept k1 (by simp)))
       go_must (have K := Lib.hid (K5.out.trans k1 (by simp)))
       go_must (have hcx := X.out.cell)
       go_must (have hfx := X.out.frozen)
       go_must (clear k1 hk5 K5))
    | (have _b := hfx
       clear hfx
       have hk5 : Kept [w2.heap.size] w4 ((w4.setCell ⟨w2.heap.size, 1, none⟩ (.int .u32 (T.dst.toNat : Nat))).setCell ⟨w2.heap.size, 4, none⟩ (.int .i64 T.dport)) := ((Kept.refl _ _).setCell (.inl (by simp)) _).setCell (.inl (by simp)) _
       have B := Lib.hid (B.out.kept hk5 (by simp; omega))
       have K := Lib.hid (K.out.trans hk5 (fun i hi => .inr (by simp at hi; omega)))
       clear hk5
       ((with_reducible show wpList _ _ _ ({ dst := none, op := Op.store 24 (.tmp 2) (.tmp 68), type := _, pos := _, after := _, guard := _ } :: _) _ _); refine wpList_put (t := 24) rfl 24 (.tmp 2) (.tmp 68) rfl _ (by rfl) (by rfl) (by exact B.out) (by rfl) (by kernel_rfl) (by simp [Value.oneCell']) ?_; intro w9 hb9 hk9; have Hb9 := Lib.hid hb9; have Hk9 := Lib.hid hk9; clear hb9 hk9)))
  refine bodyPost_ret (results_cell1 (t := 24) Tryd.results24 (by rfl) Hb9.out _ Tryd.underlying24 rfl (by kernel_rfl)) rfl ?_
  exact ⟨rfl, K.out.trans Hk9.out (fun i hi => .inr (by simp at hi; omega))⟩
set_option maxHeartbeats 6400000 in
theorem Parse_17_tf (w : World) (T : TupD) (nm s sr s1 s2 : ByteArray) (F : Hid (PF w T nm s sr s1 s2 true false)) (HQ : Hid (T.proto = 17)) (b1 : (nm.toList == [116, 99, 112]) = false) (b2 : (nm.toList == [117, 100, 112]) = true) :
    Calls Tryd.prog 24 #[.string s] w fun e w' => e = .returned (.tuple #[.agg #[.int .u32 0, .int .u32 0, .int .i64 0, .int .i64 0, .int .i64 0], .bool false]) ∧ Kept [] w w' := by
  have K := Lib.hid ((Kept.refl [] w).alloc (.cells #[.int .u32 0, .int .u32 0, .int .i64 0, .int .i64 0, .int .i64 0] 24))
  have B := Lib.hid (show Blk (w.alloc (.cells #[.int .u32 0, .int .u32 0, .int .i64 0, .int .i64 0, .int .i64 0] 24)) w.heap.size 24 #[.int .u32 0, .int .u32 0, .int .i64 0, .int .i64 0, .int .i64 0] from by (repeat (first | (apply Blk.new'; simp; done) | apply Blk.alloc | apply Blk.drew)))
  have htok : True := trivial
  go_enter Tryd.func24, Tryd.ntmps24
  go_wp2_with (first
    | (go_at_call 45
       first
         | (with_reducible refine (F.out.c1 _ K.out).mono ?_
            go_must (rintro e w1 ⟨rfl, k1⟩)
            go_must (have B := Lib.hid (B.out.kept k1 (by simp)))
            go_must (have K := Lib.hid (K.out.trans k1 (by simp)))
            go_must (clear k1))
         | (go_must (refine (F.out.c2 _ K.out).mono ?_)
            go_must (rintro e w2 ⟨rfl, k1⟩)
            go_must (have B := Lib.hid (B.out.kept k1 (by simp)))
            go_must (have K := Lib.hid (K.out.trans k1 (by simp)))
            go_must (have hz2 := K.out.size)
            go_must (have hb2 := B.out.lt)
            go_must (clear k1)))
    | (go_at_call 46
       have _t := htok
       go_must (refine (F.out.e1 _ (K.out.alloc _)).mono ?_)
       go_must (rintro e w3 ⟨rfl, k1⟩)
       go_must (have X := Lib.hid (Blk.kept (Blk.new' w2 rfl 24 #[.int .u32 0, .int .u32 0, .int .i64 17, .int .i64 0, .int .i64 0]) k1 (by simp)))
       go_must (have B := Lib.hid ((B.out.alloc _).kept k1 (by simp)))
       go_must (have K := Lib.hid ((K.out.alloc _).trans k1 (by simp)))
       go_must (have hcx := X.out.cell)
       go_must (have hfx := X.out.frozen)
       go_must (clear k1 htok))
    | (go_at_call 46
       go_must (clear hcx hfx)
       go_must (have hk5 : Kept [w2.heap.size] w3 ((w3.setCell ⟨w2.heap.size, 0, none⟩ (.int .u32 (T.src.toNat : Nat))).setCell ⟨w2.heap.size, 3, none⟩ (.int .i64 T.sport)) := ((Kept.refl _ _).setCell (.inl (by simp)) _).setCell (.inl (by simp)) _)
       go_must (have K5 := Lib.hid (K.out.trans hk5 (fun i hi => .inr (by simp at hi; omega))))
       go_must (refine (F.out.e2 _ K5.out).mono ?_)
       go_must (rintro e w4 ⟨rfl, k1⟩)
       go_must (have X := Lib.hid (((X.out.set 0 (.int .u32 (T.src.toNat : Nat))).set 3 (.int .i64 T.sport)).kept k1 (by simp)))
       go_must (have B := Lib.hid ((B.out.kept hk5 (by simp; omega)).kept k1 (by simp)))
       go_must (have K := Lib.hid (K5.out.trans k1 (by simp)))
       go_must (have hcx := X.out.cell)
       go_must (have hfx := X.out.frozen)
       go_must (clear k1 hk5 K5))
    | (have _b := hfx
       clear hfx
       have hk5 : Kept [w2.heap.size] w4 ((w4.setCell ⟨w2.heap.size, 1, none⟩ (.int .u32 (T.dst.toNat : Nat))).setCell ⟨w2.heap.size, 4, none⟩ (.int .i64 T.dport)) := ((Kept.refl _ _).setCell (.inl (by simp)) _).setCell (.inl (by simp)) _
       have B := Lib.hid (B.out.kept hk5 (by simp; omega))
       have K := Lib.hid (K.out.trans hk5 (fun i hi => .inr (by simp at hi; omega)))
       clear hk5
       ((with_reducible show wpList _ _ _ ({ dst := none, op := Op.store 24 (.tmp 2) (.tmp 68), type := _, pos := _, after := _, guard := _ } :: _) _ _); refine wpList_put (t := 24) rfl 24 (.tmp 2) (.tmp 68) rfl _ (by rfl) (by rfl) (by exact B.out) (by rfl) (by kernel_rfl) (by simp [Value.oneCell']) ?_; intro w9 hb9 hk9; have Hb9 := Lib.hid hb9; have Hk9 := Lib.hid hk9; clear hb9 hk9)))
  refine bodyPost_ret (results_cell1 (t := 24) Tryd.results24 (by rfl) Hb9.out _ Tryd.underlying24 rfl (by kernel_rfl)) rfl ?_
  exact ⟨rfl, K.out.trans Hk9.out (fun i hi => .inr (by simp at hi; omega))⟩
set_option maxHeartbeats 6400000 in
theorem Parse_17_ttf (w : World) (T : TupD) (nm s sr s1 s2 : ByteArray) (F : Hid (PF w T nm s sr s1 s2 true true)) (HQ : Hid (T.proto = 17)) (HMT : Hid (mayT T = false)) (b1 : (nm.toList == [116, 99, 112]) = false) (b2 : (nm.toList == [117, 100, 112]) = true) :
    Calls Tryd.prog 24 #[.string s] w fun e w' => e = .returned (.tuple #[.agg #[.int .u32 0, .int .u32 0, .int .i64 0, .int .i64 0, .int .i64 0], .bool false]) ∧ Kept [] w w' := by
  have K := Lib.hid ((Kept.refl [] w).alloc (.cells #[.int .u32 0, .int .u32 0, .int .i64 0, .int .i64 0, .int .i64 0] 24))
  have B := Lib.hid (show Blk (w.alloc (.cells #[.int .u32 0, .int .u32 0, .int .i64 0, .int .i64 0, .int .i64 0] 24)) w.heap.size 24 #[.int .u32 0, .int .u32 0, .int .i64 0, .int .i64 0, .int .i64 0] from by (repeat (first | (apply Blk.new'; simp; done) | apply Blk.alloc | apply Blk.drew)))
  have htok : True := trivial
  have HMY := Lib.hid (fun w' => tMay_any w' T)
  rw [HQ.out, HMT.out] at HMY
  go_enter Tryd.func24, Tryd.ntmps24
  go_wp2_with (first
    | (go_at_call 45
       first
         | (with_reducible refine (F.out.c1 _ K.out).mono ?_
            go_must (rintro e w1 ⟨rfl, k1⟩)
            go_must (have B := Lib.hid (B.out.kept k1 (by simp)))
            go_must (have K := Lib.hid (K.out.trans k1 (by simp)))
            go_must (clear k1))
         | (go_must (refine (F.out.c2 _ K.out).mono ?_)
            go_must (rintro e w2 ⟨rfl, k1⟩)
            go_must (have B := Lib.hid (B.out.kept k1 (by simp)))
            go_must (have K := Lib.hid (K.out.trans k1 (by simp)))
            go_must (have hz2 := K.out.size)
            go_must (have hb2 := B.out.lt)
            go_must (clear k1)))
    | (go_at_call 46
       have _t := htok
       go_must (refine (F.out.e1 _ (K.out.alloc _)).mono ?_)
       go_must (rintro e w3 ⟨rfl, k1⟩)
       go_must (have X := Lib.hid (Blk.kept (Blk.new' w2 rfl 24 #[.int .u32 0, .int .u32 0, .int .i64 17, .int .i64 0, .int .i64 0]) k1 (by simp)))
       go_must (have B := Lib.hid ((B.out.alloc _).kept k1 (by simp)))
       go_must (have K := Lib.hid ((K.out.alloc _).trans k1 (by simp)))
       go_must (have hcx := X.out.cell)
       go_must (have hfx := X.out.frozen)
       go_must (clear k1 htok))
    | (go_at_call 46
       go_must (clear hcx hfx)
       go_must (have hk5 : Kept [w2.heap.size] w3 ((w3.setCell ⟨w2.heap.size, 0, none⟩ (.int .u32 (T.src.toNat : Nat))).setCell ⟨w2.heap.size, 3, none⟩ (.int .i64 T.sport)) := ((Kept.refl _ _).setCell (.inl (by simp)) _).setCell (.inl (by simp)) _)
       go_must (have K5 := Lib.hid (K.out.trans hk5 (fun i hi => .inr (by simp at hi; omega))))
       go_must (refine (F.out.e2 _ K5.out).mono ?_)
       go_must (rintro e w4 ⟨rfl, k1⟩)
       go_must (have X := Lib.hid (((X.out.set 0 (.int .u32 (T.src.toNat : Nat))).set 3 (.int .i64 T.sport)).kept k1 (by simp)))
       go_must (have B := Lib.hid ((B.out.kept hk5 (by simp; omega)).kept k1 (by simp)))
       go_must (have K := Lib.hid (K5.out.trans k1 (by simp)))
       go_must (have hcx := X.out.cell)
       go_must (have hfx := X.out.frozen)
       go_must (clear k1 hk5 K5))
    | (go_at_call 8
       go_must (refine (HMY.out _).mono ?_)
       go_must (rintro e w6 ⟨rfl, k1⟩)
       go_must (clear hcx hfx)
       go_must (have hk5 : Kept [w2.heap.size] w4 ((w4.setCell ⟨w2.heap.size, 1, none⟩ (.int .u32 (T.dst.toNat : Nat))).setCell ⟨w2.heap.size, 4, none⟩ (.int .i64 T.dport)) := ((Kept.refl _ _).setCell (.inl (by simp)) _).setCell (.inl (by simp)) _)
       go_must (have X := Lib.hid (((X.out.set 1 (.int .u32 (T.dst.toNat : Nat))).set 4 (.int .i64 T.dport)).kept k1 (by simp)))
       go_must (have B := Lib.hid ((B.out.kept hk5 (by simp; omega)).kept k1 (by simp)))
       go_must (have K := Lib.hid ((K.out.trans hk5 (fun i hi => .inr (by simp at hi; omega))).trans k1 (by simp)))
       go_must (have hcx := X.out.cell)
       go_must (clear k1 hk5))
    | ((with_reducible show wpList _ _ _ ({ dst := none, op := Op.store 24 (.tmp 2) (.tmp 68), type := _, pos := _, after := _, guard := _ } :: _) _ _); refine wpList_put (t := 24) rfl 24 (.tmp 2) (.tmp 68) rfl _ (by rfl) (by rfl) (by exact B.out) (by rfl) (by kernel_rfl) (by simp [Value.oneCell']) ?_; intro w9 hb9 hk9; have Hb9 := Lib.hid hb9; have Hk9 := Lib.hid hk9; clear hb9 hk9))
  refine bodyPost_ret (results_cell1 (t := 24) Tryd.results24 (by rfl) Hb9.out _ Tryd.underlying24 rfl (by kernel_rfl)) rfl ?_
  exact ⟨rfl, K.out.trans Hk9.out (fun i hi => .inr (by simp at hi; omega))⟩
set_option maxHeartbeats 6400000 in
theorem Parse_17_ttt (w : World) (T : TupD) (nm s sr s1 s2 : ByteArray) (F : Hid (PF w T nm s sr s1 s2 true true)) (HQ : Hid (T.proto = 17)) (HMT : Hid (mayT T = true)) (b1 : (nm.toList == [116, 99, 112]) = false) (b2 : (nm.toList == [117, 100, 112]) = true) :
    Calls Tryd.prog 24 #[.string s] w fun e w' => e = .returned (.tuple #[.agg #[.int .u32 (T.src.toNat : Nat), .int .u32 (T.dst.toNat : Nat), .int .i64 T.proto, .int .i64 T.sport, .int .i64 T.dport], .bool true]) ∧ Kept [] w w' := by
  have K := Lib.hid ((Kept.refl [] w).alloc (.cells #[.int .u32 0, .int .u32 0, .int .i64 0, .int .i64 0, .int .i64 0] 24))
  have B := Lib.hid (show Blk (w.alloc (.cells #[.int .u32 0, .int .u32 0, .int .i64 0, .int .i64 0, .int .i64 0] 24)) w.heap.size 24 #[.int .u32 0, .int .u32 0, .int .i64 0, .int .i64 0, .int .i64 0] from by (repeat (first | (apply Blk.new'; simp; done) | apply Blk.alloc | apply Blk.drew)))
  have htok : True := trivial
  have HMY := Lib.hid (fun w' => tMay_any w' T)
  rw [HQ.out, HMT.out] at HMY
  go_enter Tryd.func24, Tryd.ntmps24
  go_wp2_with (first
    | (go_at_call 45
       first
         | (with_reducible refine (F.out.c1 _ K.out).mono ?_
            go_must (rintro e w1 ⟨rfl, k1⟩)
            go_must (have B := Lib.hid (B.out.kept k1 (by simp)))
            go_must (have K := Lib.hid (K.out.trans k1 (by simp)))
            go_must (clear k1))
         | (go_must (refine (F.out.c2 _ K.out).mono ?_)
            go_must (rintro e w2 ⟨rfl, k1⟩)
            go_must (have B := Lib.hid (B.out.kept k1 (by simp)))
            go_must (have K := Lib.hid (K.out.trans k1 (by simp)))
            go_must (have hz2 := K.out.size)
            go_must (have hb2 := B.out.lt)
            go_must (clear k1)))
    | (go_at_call 46
       have _t := htok
       go_must (refine (F.out.e1 _ (K.out.alloc _)).mono ?_)
       go_must (rintro e w3 ⟨rfl, k1⟩)
       go_must (have X := Lib.hid (Blk.kept (Blk.new' w2 rfl 24 #[.int .u32 0, .int .u32 0, .int .i64 17, .int .i64 0, .int .i64 0]) k1 (by simp)))
       go_must (have B := Lib.hid ((B.out.alloc _).kept k1 (by simp)))
       go_must (have K := Lib.hid ((K.out.alloc _).trans k1 (by simp)))
       go_must (have hcx := X.out.cell)
       go_must (have hfx := X.out.frozen)
       go_must (clear k1 htok))
    | (go_at_call 46
       go_must (clear hcx hfx)
       go_must (have hk5 : Kept [w2.heap.size] w3 ((w3.setCell ⟨w2.heap.size, 0, none⟩ (.int .u32 (T.src.toNat : Nat))).setCell ⟨w2.heap.size, 3, none⟩ (.int .i64 T.sport)) := ((Kept.refl _ _).setCell (.inl (by simp)) _).setCell (.inl (by simp)) _)
       go_must (have K5 := Lib.hid (K.out.trans hk5 (fun i hi => .inr (by simp at hi; omega))))
       go_must (refine (F.out.e2 _ K5.out).mono ?_)
       go_must (rintro e w4 ⟨rfl, k1⟩)
       go_must (have X := Lib.hid (((X.out.set 0 (.int .u32 (T.src.toNat : Nat))).set 3 (.int .i64 T.sport)).kept k1 (by simp)))
       go_must (have B := Lib.hid ((B.out.kept hk5 (by simp; omega)).kept k1 (by simp)))
       go_must (have K := Lib.hid (K5.out.trans k1 (by simp)))
       go_must (have hcx := X.out.cell)
       go_must (have hfx := X.out.frozen)
       go_must (clear k1 hk5 K5))
    | (go_at_call 8
       go_must (refine (HMY.out _).mono ?_)
       go_must (rintro e w6 ⟨rfl, k1⟩)
       go_must (clear hcx hfx)
       go_must (have hk5 : Kept [w2.heap.size] w4 ((w4.setCell ⟨w2.heap.size, 1, none⟩ (.int .u32 (T.dst.toNat : Nat))).setCell ⟨w2.heap.size, 4, none⟩ (.int .i64 T.dport)) := ((Kept.refl _ _).setCell (.inl (by simp)) _).setCell (.inl (by simp)) _)
       go_must (have X := Lib.hid (((X.out.set 1 (.int .u32 (T.dst.toNat : Nat))).set 4 (.int .i64 T.dport)).kept k1 (by simp)))
       go_must (have B := Lib.hid ((B.out.kept hk5 (by simp; omega)).kept k1 (by simp)))
       go_must (have K := Lib.hid ((K.out.trans hk5 (fun i hi => .inr (by simp at hi; omega))).trans k1 (by simp)))
       go_must (have hcx := X.out.cell)
       go_must (clear k1 hk5))
    | ((with_reducible show wpList _ _ _ ({ dst := none, op := Op.store 24 (.tmp 2) (.tmp 69), type := _, pos := _, after := _, guard := _ } :: _) _ _); refine wpList_put (t := 24) rfl 24 (.tmp 2) (.tmp 69) rfl _ (by rfl) (by rfl) (by exact B.out) (by rfl) (by kernel_rfl) (by simp [Value.oneCell']) ?_; intro w9 hb9 hk9; have Hb9 := Lib.hid hb9; have Hk9 := Lib.hid hk9; clear hb9 hk9))
  refine bodyPost_ret (results_cell1 (t := 24) Tryd.results24 (by rfl) Hb9.out _ Tryd.underlying24 rfl (by kernel_rfl)) rfl ?_
  exact ⟨by rw [HQ.out]; rfl, K.out.trans Hk9.out (fun i hi => .inr (by simp at hi; omega))⟩
set_option maxHeartbeats 6400000 in
theorem Parse_0_f (w : World) (T : TupD) (nm s sr s1 s2 : ByteArray) (d2 : Bool) (F : Hid (PF w T nm s sr s1 s2 false d2)) (HQ : Hid (T.proto = 0)) (b1 : (nm.toList == [116, 99, 112]) = false) (b2 : (nm.toList == [117, 100, 112]) = false) :
    Calls Tryd.prog 24 #[.string s] w fun e w' => e = .returned (.tuple #[.agg #[.int .u32 0, .int .u32 0, .int .i64 0, .int .i64 0, .int .i64 0], .bool false]) ∧ Kept [] w w' := by
  have K := Lib.hid ((Kept.refl [] w).alloc (.cells #[.int .u32 0, .int .u32 0, .int .i64 0, .int .i64 0, .int .i64 0] 24))
  have B := Lib.hid (show Blk (w.alloc (.cells #[.int .u32 0, .int .u32 0, .int .i64 0, .int .i64 0, .int .i64 0] 24)) w.heap.size 24 #[.int .u32 0, .int .u32 0, .int .i64 0, .int .i64 0, .int .i64 0] from by (repeat (first | (apply Blk.new'; simp; done) | apply Blk.alloc | apply Blk.drew)))
  have htok : True := trivial
  go_enter Tryd.func24, Tryd.ntmps24
  go_wp2_with (first
    | (go_at_call 45
       first
         | (with_reducible refine (F.out.c1 _ K.out).mono ?_
            go_must (rintro e w1 ⟨rfl, k1⟩)
            go_must (have B := Lib.hid (B.out.kept k1 (by simp)))
            go_must (have K := Lib.hid (K.out.trans k1 (by simp)))
            go_must (clear k1))
         | (go_must (refine (F.out.c2 _ K.out).mono ?_)
            go_must (rintro e w2 ⟨rfl, k1⟩)
            go_must (have B := Lib.hid (B.out.kept k1 (by simp)))
            go_must (have K := Lib.hid (K.out.trans k1 (by simp)))
            go_must (have hz2 := K.out.size)
            go_must (have hb2 := B.out.lt)
            go_must (clear k1)))
    | (go_at_call 46
       have _t := htok
       go_must (refine (F.out.e1 _ (K.out.alloc _)).mono ?_)
       go_must (rintro e w3 ⟨rfl, k1⟩)
       go_must (have X := Lib.hid (Blk.kept (Blk.new' w2 rfl 24 #[.int .u32 0, .int .u32 0, .int .i64 0, .int .i64 0, .int .i64 0]) k1 (by simp)))
       go_must (have B := Lib.hid ((B.out.alloc _).kept k1 (by simp)))
       go_must (have K := Lib.hid ((K.out.alloc _).trans k1 (by simp)))
       go_must (have hcx := X.out.cell)
       go_must (have hfx := X.out.frozen)
       go_must (clear k1 htok))
    | (go_at_call 46
       go_must (clear hcx hfx)
       go_must (have hk5 : Kept [w2.heap.size] w3 ((w3.setCell ⟨w2.heap.size, 0, none⟩ (.int .u32 (T.src.toNat : Nat))).setCell ⟨w2.heap.size, 3, none⟩ (.int .i64 T.sport)) := ((Kept.refl _ _).setCell (.inl (by simp)) _).setCell (.inl (by simp)) _)
       go_must (have K5 := Lib.hid (K.out.trans hk5 (fun i hi => .inr (by simp at hi; omega))))
       go_must (refine (F.out.e2 _ K5.out).mono ?_)
       go_must (rintro e w4 ⟨rfl, k1⟩)
       go_must (have X := Lib.hid (((X.out.set 0 (.int .u32 (T.src.toNat : Nat))).set 3 (.int .i64 T.sport)).kept k1 (by simp)))
       go_must (have B := Lib.hid ((B.out.kept hk5 (by simp; omega)).kept k1 (by simp)))
       go_must (have K := Lib.hid (K5.out.trans k1 (by simp)))
       go_must (have hcx := X.out.cell)
       go_must (have hfx := X.out.frozen)
       go_must (clear k1 hk5 K5))
    | (have _b := hfx
       clear hfx
       have hk5 : Kept [w2.heap.size] w4 ((w4.setCell ⟨w2.heap.size, 1, none⟩ (.int .u32 (T.dst.toNat : Nat))).setCell ⟨w2.heap.size, 4, none⟩ (.int .i64 T.dport)) := ((Kept.refl _ _).setCell (.inl (by simp)) _).setCell (.inl (by simp)) _
       have B := Lib.hid (B.out.kept hk5 (by simp; omega))
       have K := Lib.hid (K.out.trans hk5 (fun i hi => .inr (by simp at hi; omega)))
       clear hk5
       ((with_reducible show wpList _ _ _ ({ dst := none, op := Op.store 24 (.tmp 2) (.tmp 68), type := _, pos := _, after := _, guard := _ } :: _) _ _); refine wpList_put (t := 24) rfl 24 (.tmp 2) (.tmp 68) rfl _ (by rfl) (by rfl) (by exact B.out) (by rfl) (by kernel_rfl) (by simp [Value.oneCell']) ?_; intro w9 hb9 hk9; have Hb9 := Lib.hid hb9; have Hk9 := Lib.hid hk9; clear hb9 hk9)))
  refine bodyPost_ret (results_cell1 (t := 24) Tryd.results24 (by rfl) Hb9.out _ Tryd.underlying24 rfl (by kernel_rfl)) rfl ?_
  exact ⟨rfl, K.out.trans Hk9.out (fun i hi => .inr (by simp at hi; omega))⟩
set_option maxHeartbeats 6400000 in
theorem Parse_0_tf (w : World) (T : TupD) (nm s sr s1 s2 : ByteArray) (F : Hid (PF w T nm s sr s1 s2 true false)) (HQ : Hid (T.proto = 0)) (b1 : (nm.toList == [116, 99, 112]) = false) (b2 : (nm.toList == [117, 100, 112]) = false) :
    Calls Tryd.prog 24 #[.string s] w fun e w' => e = .returned (.tuple #[.agg #[.int .u32 0, .int .u32 0, .int .i64 0, .int .i64 0, .int .i64 0], .bool false]) ∧ Kept [] w w' := by
  have K := Lib.hid ((Kept.refl [] w).alloc (.cells #[.int .u32 0, .int .u32 0, .int .i64 0, .int .i64 0, .int .i64 0] 24))
  have B := Lib.hid (show Blk (w.alloc (.cells #[.int .u32 0, .int .u32 0, .int .i64 0, .int .i64 0, .int .i64 0] 24)) w.heap.size 24 #[.int .u32 0, .int .u32 0, .int .i64 0, .int .i64 0, .int .i64 0] from by (repeat (first | (apply Blk.new'; simp; done) | apply Blk.alloc | apply Blk.drew)))
  have htok : True := trivial
  go_enter Tryd.func24, Tryd.ntmps24
  go_wp2_with (first
    | (go_at_call 45
       first
         | (with_reducible refine (F.out.c1 _ K.out).mono ?_
            go_must (rintro e w1 ⟨rfl, k1⟩)
            go_must (have B := Lib.hid (B.out.kept k1 (by simp)))
            go_must (have K := Lib.hid (K.out.trans k1 (by simp)))
            go_must (clear k1))
         | (go_must (refine (F.out.c2 _ K.out).mono ?_)
            go_must (rintro e w2 ⟨rfl, k1⟩)
            go_must (have B := Lib.hid (B.out.kept k1 (by simp)))
            go_must (have K := Lib.hid (K.out.trans k1 (by simp)))
            go_must (have hz2 := K.out.size)
            go_must (have hb2 := B.out.lt)
            go_must (clear k1)))
    | (go_at_call 46
       have _t := htok
       go_must (refine (F.out.e1 _ (K.out.alloc _)).mono ?_)
       go_must (rintro e w3 ⟨rfl, k1⟩)
       go_must (have X := Lib.hid (Blk.kept (Blk.new' w2 rfl 24 #[.int .u32 0, .int .u32 0, .int .i64 0, .int .i64 0, .int .i64 0]) k1 (by simp)))
       go_must (have B := Lib.hid ((B.out.alloc _).kept k1 (by simp)))
       go_must (have K := Lib.hid ((K.out.alloc _).trans k1 (by simp)))
       go_must (have hcx := X.out.cell)
       go_must (have hfx := X.out.frozen)
       go_must (clear k1 htok))
    | (go_at_call 46
       go_must (clear hcx hfx)
       go_must (have hk5 : Kept [w2.heap.size] w3 ((w3.setCell ⟨w2.heap.size, 0, none⟩ (.int .u32 (T.src.toNat : Nat))).setCell ⟨w2.heap.size, 3, none⟩ (.int .i64 T.sport)) := ((Kept.refl _ _).setCell (.inl (by simp)) _).setCell (.inl (by simp)) _)
       go_must (have K5 := Lib.hid (K.out.trans hk5 (fun i hi => .inr (by simp at hi; omega))))
       go_must (refine (F.out.e2 _ K5.out).mono ?_)
       go_must (rintro e w4 ⟨rfl, k1⟩)
       go_must (have X := Lib.hid (((X.out.set 0 (.int .u32 (T.src.toNat : Nat))).set 3 (.int .i64 T.sport)).kept k1 (by simp)))
       go_must (have B := Lib.hid ((B.out.kept hk5 (by simp; omega)).kept k1 (by simp)))
       go_must (have K := Lib.hid (K5.out.trans k1 (by simp)))
       go_must (have hcx := X.out.cell)
       go_must (have hfx := X.out.frozen)
       go_must (clear k1 hk5 K5))
    | (have _b := hfx
       clear hfx
       have hk5 : Kept [w2.heap.size] w4 ((w4.setCell ⟨w2.heap.size, 1, none⟩ (.int .u32 (T.dst.toNat : Nat))).setCell ⟨w2.heap.size, 4, none⟩ (.int .i64 T.dport)) := ((Kept.refl _ _).setCell (.inl (by simp)) _).setCell (.inl (by simp)) _
       have B := Lib.hid (B.out.kept hk5 (by simp; omega))
       have K := Lib.hid (K.out.trans hk5 (fun i hi => .inr (by simp at hi; omega)))
       clear hk5
       ((with_reducible show wpList _ _ _ ({ dst := none, op := Op.store 24 (.tmp 2) (.tmp 68), type := _, pos := _, after := _, guard := _ } :: _) _ _); refine wpList_put (t := 24) rfl 24 (.tmp 2) (.tmp 68) rfl _ (by rfl) (by rfl) (by exact B.out) (by rfl) (by kernel_rfl) (by simp [Value.oneCell']) ?_; intro w9 hb9 hk9; have Hb9 := Lib.hid hb9; have Hk9 := Lib.hid hk9; clear hb9 hk9)))
  refine bodyPost_ret (results_cell1 (t := 24) Tryd.results24 (by rfl) Hb9.out _ Tryd.underlying24 rfl (by kernel_rfl)) rfl ?_
  exact ⟨rfl, K.out.trans Hk9.out (fun i hi => .inr (by simp at hi; omega))⟩
set_option maxHeartbeats 6400000 in
theorem Parse_0_ttf (w : World) (T : TupD) (nm s sr s1 s2 : ByteArray) (F : Hid (PF w T nm s sr s1 s2 true true)) (HQ : Hid (T.proto = 0)) (HMT : Hid (mayT T = false)) (b1 : (nm.toList == [116, 99, 112]) = false) (b2 : (nm.toList == [117, 100, 112]) = false) :
    Calls Tryd.prog 24 #[.string s] w fun e w' => e = .returned (.tuple #[.agg #[.int .u32 0, .int .u32 0, .int .i64 0, .int .i64 0, .int .i64 0], .bool false]) ∧ Kept [] w w' := by
  have K := Lib.hid ((Kept.refl [] w).alloc (.cells #[.int .u32 0, .int .u32 0, .int .i64 0, .int .i64 0, .int .i64 0] 24))
  have B := Lib.hid (show Blk (w.alloc (.cells #[.int .u32 0, .int .u32 0, .int .i64 0, .int .i64 0, .int .i64 0] 24)) w.heap.size 24 #[.int .u32 0, .int .u32 0, .int .i64 0, .int .i64 0, .int .i64 0] from by (repeat (first | (apply Blk.new'; simp; done) | apply Blk.alloc | apply Blk.drew)))
  have htok : True := trivial
  have HMY := Lib.hid (fun w' => tMay_any w' T)
  rw [HQ.out, HMT.out] at HMY
  go_enter Tryd.func24, Tryd.ntmps24
  go_wp2_with (first
    | (go_at_call 45
       first
         | (with_reducible refine (F.out.c1 _ K.out).mono ?_
            go_must (rintro e w1 ⟨rfl, k1⟩)
            go_must (have B := Lib.hid (B.out.kept k1 (by simp)))
            go_must (have K := Lib.hid (K.out.trans k1 (by simp)))
            go_must (clear k1))
         | (go_must (refine (F.out.c2 _ K.out).mono ?_)
            go_must (rintro e w2 ⟨rfl, k1⟩)
            go_must (have B := Lib.hid (B.out.kept k1 (by simp)))
            go_must (have K := Lib.hid (K.out.trans k1 (by simp)))
            go_must (have hz2 := K.out.size)
            go_must (have hb2 := B.out.lt)
            go_must (clear k1)))
    | (go_at_call 46
       have _t := htok
       go_must (refine (F.out.e1 _ (K.out.alloc _)).mono ?_)
       go_must (rintro e w3 ⟨rfl, k1⟩)
       go_must (have X := Lib.hid (Blk.kept (Blk.new' w2 rfl 24 #[.int .u32 0, .int .u32 0, .int .i64 0, .int .i64 0, .int .i64 0]) k1 (by simp)))
       go_must (have B := Lib.hid ((B.out.alloc _).kept k1 (by simp)))
       go_must (have K := Lib.hid ((K.out.alloc _).trans k1 (by simp)))
       go_must (have hcx := X.out.cell)
       go_must (have hfx := X.out.frozen)
       go_must (clear k1 htok))
    | (go_at_call 46
       go_must (clear hcx hfx)
       go_must (have hk5 : Kept [w2.heap.size] w3 ((w3.setCell ⟨w2.heap.size, 0, none⟩ (.int .u32 (T.src.toNat : Nat))).setCell ⟨w2.heap.size, 3, none⟩ (.int .i64 T.sport)) := ((Kept.refl _ _).setCell (.inl (by simp)) _).setCell (.inl (by simp)) _)
       go_must (have K5 := Lib.hid (K.out.trans hk5 (fun i hi => .inr (by simp at hi; omega))))
       go_must (refine (F.out.e2 _ K5.out).mono ?_)
       go_must (rintro e w4 ⟨rfl, k1⟩)
       go_must (have X := Lib.hid (((X.out.set 0 (.int .u32 (T.src.toNat : Nat))).set 3 (.int .i64 T.sport)).kept k1 (by simp)))
       go_must (have B := Lib.hid ((B.out.kept hk5 (by simp; omega)).kept k1 (by simp)))
       go_must (have K := Lib.hid (K5.out.trans k1 (by simp)))
       go_must (have hcx := X.out.cell)
       go_must (have hfx := X.out.frozen)
       go_must (clear k1 hk5 K5))
    | (go_at_call 8
       go_must (refine (HMY.out _).mono ?_)
       go_must (rintro e w6 ⟨rfl, k1⟩)
       go_must (clear hcx hfx)
       go_must (have hk5 : Kept [w2.heap.size] w4 ((w4.setCell ⟨w2.heap.size, 1, none⟩ (.int .u32 (T.dst.toNat : Nat))).setCell ⟨w2.heap.size, 4, none⟩ (.int .i64 T.dport)) := ((Kept.refl _ _).setCell (.inl (by simp)) _).setCell (.inl (by simp)) _)
       go_must (have X := Lib.hid (((X.out.set 1 (.int .u32 (T.dst.toNat : Nat))).set 4 (.int .i64 T.dport)).kept k1 (by simp)))
       go_must (have B := Lib.hid ((B.out.kept hk5 (by simp; omega)).kept k1 (by simp)))
       go_must (have K := Lib.hid ((K.out.trans hk5 (fun i hi => .inr (by simp at hi; omega))).trans k1 (by simp)))
       go_must (have hcx := X.out.cell)
       go_must (clear k1 hk5))
    | ((with_reducible show wpList _ _ _ ({ dst := none, op := Op.store 24 (.tmp 2) (.tmp 68), type := _, pos := _, after := _, guard := _ } :: _) _ _); refine wpList_put (t := 24) rfl 24 (.tmp 2) (.tmp 68) rfl _ (by rfl) (by rfl) (by exact B.out) (by rfl) (by kernel_rfl) (by simp [Value.oneCell']) ?_; intro w9 hb9 hk9; have Hb9 := Lib.hid hb9; have Hk9 := Lib.hid hk9; clear hb9 hk9))
  refine bodyPost_ret (results_cell1 (t := 24) Tryd.results24 (by rfl) Hb9.out _ Tryd.underlying24 rfl (by kernel_rfl)) rfl ?_
  exact ⟨rfl, K.out.trans Hk9.out (fun i hi => .inr (by simp at hi; omega))⟩
end Go.Proofs.YtflbeipnnmeiaaaDoor
