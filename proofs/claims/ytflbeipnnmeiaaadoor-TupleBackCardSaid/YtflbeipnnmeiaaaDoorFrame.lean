
/-
  Contracts of frame's functions and of the reference's: Put, Same.
-/
import Derived.Test.YtflbeipnnmeiaaaDoorWv
import Derived.Test.YtflbeipnnmeiaaaDoorCrc
import Derived.Test.YtflbeipnnmeiaaaDoorRef1
import Derived.Test.YtflbeipnnmeiaaaDoorStr
import Derived.Lib.SlBytesConst
namespace Go.Proofs.YtflbeipnnmeiaaaDoor
open Go.RowKit
set_option linter.unusedVariables false
set_option maxRecDepth 100000

/-- a frame -/
structure FrameD where
  kind : Int
  ver : Int
  body : List UInt8
instance : Inhabited FrameD := ⟨⟨0, 0, []⟩⟩
/-- the bytes that the first sum is of -/
def head8 (f : FrameD) : List UInt8 := [103, 111, 105, 116] ++ beK (nat64 f.kind) 1 1 ++ beK (nat64 f.ver) 1 1 ++ beK (nat64 f.body.length) 2 2
def putB (f : FrameD) : List UInt8 := head8 f ++ beK (crc (head8 f)) 4 4 ++ beK (crc f.body) 4 4 ++ f.body
def putE (f : FrameD) : Int := if f.kind < 0 ∨ 255 < f.kind ∨ f.ver < 0 ∨ 255 < f.ver then 1 else if 4096 < f.body.length then 4 else 0
def putF (f : FrameD) : List UInt8 := if putE f = 0 then putB f else []
theorem head8_len (f : FrameD) : (head8 f).length = 8 := by simp [head8, beK_len]
theorem putB_len (f : FrameD) : (putB f).length = 16 + f.body.length := by simp [putB, head8_len, beK_len]; omega

theorem RdB.litf (w : World) (fr : Nat × Nat) (cs : List UInt8) (n : Nat) (h : cs.length = n) (hn : n ≤ maxLen) : RdB (w.alloc (.cells (u8s cs).toArray 5 fr)) [w.heap.size] (.slice (some ⟨w.heap.size, 0, none⟩) n n) cs :=
  ⟨_, n, n, rfl, h, Nat.le_refl _, hn, fun _ => ⟨_, _, rfl, fun j u hu => by rw [Nat.zero_add, cell_of_row _ _ j _ _ fr (heap_alloc_new w _)]; simpa using hu⟩, by simp [addrOf], by simp⟩
theorem RdB.lit (w : World) (cs : List UInt8) (n : Nat) (h : cs.length = n) (hn : n ≤ maxLen) : RdB (w.alloc (.cells (u8s cs).toArray 5)) [w.heap.size] (.slice (some ⟨w.heap.size, 0, none⟩) n n) cs :=
  ⟨_, n, n, rfl, h, Nat.le_refl _, hn, by simpa using Rd.new w (u8s cs).toArray 5, by simp [addrOf], by simp⟩

theorem WV.start1 (w : World) (o : Obj) : WV w (w.heap.size + 1) [] ((w.alloc o).alloc (.cells #[.slice none 0 0] 34)) := by
  have h := WV.start ((Kept.refl [] w).alloc o)
  rwa [World.size_alloc] at h
set_option maxHeartbeats 1600000 in
theorem Put_any (w : World) (G : List Nat) (A : Option Addr) (m c : Nat) (f : FrameD) (h : RdB w G (.slice A m c) f.body) :
    Calls Tryd.prog 54 #[.agg #[.int .i64 f.kind, .int .i64 f.ver, .slice A m c]] w fun e w' => ∃ v, e = .returned (.tuple #[v, .int .i64 (putE f)]) ∧ New w 5 1 v (putF f).length (u8s (putF f)) w' := by
  have hm := h.len
  have H := Lib.hid h
  have Hm := Lib.hid hm.1
  have hcm := hm.2.2.1
  have hmc := hm.2.1
  unfold maxLen at hcm
  clear h hm
  by_cases hbad : f.kind < 0 ∨ 255 < f.kind ∨ f.ver < 0 ∨ 255 < f.ver
  · have he : putE f = 1 := by simp [putE, hbad]
    have hf : putF f = [] := by simp [putF, he]
    rw [he, hf]
    clear he hf
    by_cases k0 : f.kind < 0
    · go_enter Tryd.func54, Tryd.ntmps54
      go_wp2
      go_ret2
      exact ⟨_, rfl, Own.nil _ _ _, (Kept.refl _ _).alloc _, by simp [rowOf, Value.ownBlock]⟩
    · by_cases k1 : 255 < f.kind
      · go_enter Tryd.func54, Tryd.ntmps54
        go_wp2
        go_ret2
        exact ⟨_, rfl, Own.nil _ _ _, (Kept.refl _ _).alloc _, by simp [rowOf, Value.ownBlock]⟩
      · by_cases k2 : f.ver < 0
        · go_enter Tryd.func54, Tryd.ntmps54
          go_wp2
          go_ret2
          exact ⟨_, rfl, Own.nil _ _ _, (Kept.refl _ _).alloc _, by simp [rowOf, Value.ownBlock]⟩
        · have k3 : 255 < f.ver := by omega
          clear hbad
          go_enter Tryd.func54, Tryd.ntmps54
          go_wp2
          go_ret2
          exact ⟨_, rfl, Own.nil _ _ _, (Kept.refl _ _).alloc _, by simp [rowOf, Value.ownBlock]⟩
  · have k0 : 0 ≤ f.kind := by omega
    have k1 : f.kind ≤ 255 := by omega
    have k2 : 0 ≤ f.ver := by omega
    have k3 : f.ver ≤ 255 := by omega
    by_cases hl : 4096 < m
    · have he : putE f = 4 := by rw [← Hm.out] at hl; simp [putE, hbad, hl]
      have hf : putF f = [] := by simp [putF, he]
      rw [he, hf]
      clear he hf hbad
      go_enter Tryd.func54, Tryd.ntmps54
      go_wp2
      go_ret2
      exact ⟨_, rfl, Own.nil _ _ _, (Kept.refl _ _).alloc _, by simp [rowOf, Value.ownBlock]⟩
    · have he : putE f = 0 := by rw [← Hm.out] at hl; simp [putE, hbad, hl]
      have hf : putF f = putB f := by simp [putF, he]
      rw [he, hf]
      clear he hf hbad
      go_enter Tryd.func54, Tryd.ntmps54
      have hcv := Lib.run_convert_bytes_const (P := Tryd.prog) ((w.alloc (.cells #[.int .i64 f.kind, .int .i64 f.ver, .slice A m c] 91)).alloc (.cells #[.slice none 0 0] 34)) 32 5 #[.int .u8 103, .int .u8 111, .int .u8 105, .int .u8 116] 4 4 Tryd.underlying32 Tryd.underlying5
      rw [World.size_alloc, World.size_alloc] at hcv
      go_wp2_with fail
      have hv0 := WV.start1 w (.cells #[.int .i64 f.kind, .int .i64 f.ver, .slice A m c] 91)
      have hb0 := (Blk.new w 91 #[.int .i64 f.kind, .int .i64 f.ver, .slice A m c]).alloc (.cells #[.slice none 0 0] 34)
      have hl0 := RdB.litf ((w.alloc (.cells #[.int .i64 f.kind, .int .i64 f.ver, .slice A m c] 91)).alloc (.cells #[.slice none 0 0] 34)) (4, 5) [103, 111, 105, 116] 4 rfl (by unfold maxLen; omega)
      rw [World.size_alloc, World.size_alloc] at hl0
      refine (VRaw (hv0.go ((Kept.refl _ _).alloc _)) [103, 111, 105, 116] hl0 (by simp)).mono ?_
      rintro e w1 ⟨rfl, hv1, ha1⟩
      have hb1 := ha1 _ _ _ (by decide) (by decide) (hb0.alloc _)
      have hc0 := hb1.cell 0
      have hc1 := hb1.cell 1
      have hc2 := hb1.cell 2
      simp only [List.getElem?_toArray, List.getElem?_cons_zero, List.getElem?_cons_succ] at hc0 hc1 hc2
      have Hv1 := Lib.hid hv1
      have Hb1 := Lib.hid hb1
      clear hv0 hb0 hl0 hv1 ha1 hb1
      go_wp2_with fail
      refine (VU8 Hv1.out _ (by simp)).mono ?_
      rintro e w2 ⟨rfl, hv2, ha2⟩
      have hb2 := ha2 _ _ _ (by decide) (by decide) Hb1.out
      have hc3 := hb2.cell 1
      simp only [List.getElem?_toArray, List.getElem?_cons_zero, List.getElem?_cons_succ] at hc3
      have Hv2 := Lib.hid hv2
      have Hb2 := Lib.hid hb2
      clear hv2 ha2 hb2
      go_wp2_with fail
      refine (VU8 Hv2.out _ (by simp [beK_len])).mono ?_
      rintro e w3 ⟨rfl, hv3, ha3⟩
      have hb3 := ha3 _ _ _ (by decide) (by decide) Hb2.out
      have hc4 := hb3.cell 2
      simp only [List.getElem?_toArray, List.getElem?_cons_zero, List.getElem?_cons_succ] at hc4
      have Hv3 := Lib.hid hv3
      have Hb3 := Lib.hid hb3
      clear hv3 ha3 hb3
      go_wp2_with fail
      refine (VU16 Hv3.out _ (by simp [beK_len])).mono ?_
      rintro e w4 ⟨rfl, hv4, ha4⟩
      have hh : [103, 111, 105, 116] ++ beK (nat64 f.kind) 1 1 ++ beK (nat64 f.ver) 1 1 ++ beK (nat64 m) 2 2 = head8 f := by rw [← Hm.out]; rfl
      have hv4' : WV w (w.heap.size + 1) (head8 f) w4 := by rw [← hh]; exact hv4
      have hb4 := ha4 _ _ _ (by decide) (by decide) Hb3.out
      have Hv4 := Lib.hid hv4'
      have Hb4 := Lib.hid hb4
      clear hv4 ha4 hb4 hv4' hh
      have Hpb : Hid (putB f = head8 f ++ beK (crc (head8 f)) 4 4 ++ beK (crc f.body) 4 4 ++ f.body) := rfl
      have hh8 := head8_len f
      generalize head8 f = h8 at *
      have Hh8 := Lib.hid hh8
      clear hh8
      go_wp2_with fail
      refine (VBytes Hv4.out (by rw [Hh8.out]; omega)).mono ?_
      rintro e w5 ⟨A5, n5, c5, rfl, -, hn5, hv5, hk5⟩
      have Hr5 := Lib.hid (RdB.of_own hn5.1)
      have Hv5 := Lib.hid hv5
      have Hb5 := Lib.hid (Hb4.out.kept hk5 (by simp))
      clear hn5 hv5 hk5
      go_wp2_with fail
      refine (Crc_any _ _ _ _ _ _ Hr5.out).mono ?_
      rintro e w6 ⟨rfl, rfl⟩
      go_wp2_with fail
      refine (VU32 Hv5.out _ (crc h8) rfl (crc_lt _) (by rw [Hh8.out]; omega)).mono ?_
      rintro e w6 ⟨rfl, hv6, ha6⟩
      have hb6 := ha6 _ _ _ (by decide) (by decide) Hb5.out
      have hc6 := hb6.cell 2
      simp only [List.getElem?_toArray, List.getElem?_cons_zero, List.getElem?_cons_succ] at hc6
      have Hb6 := Lib.hid hb6
      have Hv6 := Lib.hid hv6
      clear hv6 ha6 hb6
      go_wp2_with fail
      refine (Crc_any _ _ _ _ _ _ (H.out.kept Hv6.out.kept (by simp))).mono ?_
      rintro e w7 ⟨rfl, rfl⟩
      go_wp2_with fail
      refine (VU32 Hv6.out _ (crc f.body) rfl (crc_lt _) (by simp [beK_len, Hh8.out])).mono ?_
      rintro e w7 ⟨rfl, hv7, ha7⟩
      have hb7 := ha7 _ _ _ (by decide) (by decide) Hb6.out
      have hc7 := hb7.cell 2
      simp only [List.getElem?_toArray, List.getElem?_cons_zero, List.getElem?_cons_succ] at hc7
      have Hv7 := Lib.hid hv7
      clear hv7 ha7 hb7
      go_wp2_with fail
      refine (VRaw Hv7.out f.body (H.out.kept Hv7.out.kept (by simp)) (by simp [beK_len, Hh8.out]; omega)).mono ?_
      rintro e w8 ⟨rfl, hv8, ha8⟩
      have Hv8 := Lib.hid hv8
      clear hv8 ha8
      go_wp2_with fail
      refine (VBytes Hv8.out (by simp [beK_len, Hh8.out]; have := Hm.out; omega)).mono ?_
      rintro e w9 ⟨A9, n9, c9, rfl, hq9, hn9, _, _⟩
      have Hn9 := Lib.hid (hn9.cast hq9.symm rfl)
      clear hn9 hq9
      go_wp2
      go_ret2
      rw [Hpb.out]
      exact ⟨_, rfl, Hn9.out⟩
end Go.Proofs.YtflbeipnnmeiaaaDoor
