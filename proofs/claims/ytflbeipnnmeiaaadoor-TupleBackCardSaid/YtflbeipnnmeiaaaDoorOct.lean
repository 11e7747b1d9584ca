
/-
  Contracts of octet's functions.
-/
import Derived.Test.YtflbeipnnmeiaaaDoorBase
import Derived.Test.YtflbeipnnmeiaaaDoorRows
import Derived.Deep.RegionHeld3
import Derived.Deep.RegionLaw
import Derived.Deep.LoopGhost
import Derived.Outline
namespace Go.Proofs.YtflbeipnnmeiaaaDoor
open Go.RowKit
set_option linter.unusedVariables false
set_option maxRecDepth 100000

abbrev u8v (b : UInt8) : Value := .int .u8 (b.toNat : Int)
def u8s (bs : List UInt8) : List Value := bs.map u8v
theorem u8s_len (bs : List UInt8) : (u8s bs).length = bs.length := by simp [u8s]
theorem u8s_app (a b : List UInt8) : u8s (a ++ b) = u8s a ++ u8s b := by simp [u8s]
theorem u8s_one (bs : List UInt8) : ∀ u ∈ u8s bs, u.oneCell' = true := by
  intro u hu; obtain ⟨_, _, rfl⟩ := List.mem_map.1 hu; rfl
theorem info_u8 : (Tryd.prog.info? 5).map (fun i => (i.zero, i.size, i.bytes)) = some (some (.int .u8 0), 1, 1) := by kernel_rfl

/-- the writer at block b has written bs; v is its row -/
structure Wr (w : World) (b : Nat) (v : Value) (bs : List UInt8) : Prop where
  blk : Blk w b 34 #[v]
  own : Own w 5 1 v bs.length (u8s bs)

theorem Wr.ne {w : World} {b : Nat} {v : Value} {bs : List UInt8} (h : Wr w b v bs) : b ∉ rowOf v := h.own.ne_blk h.blk (by decide)
theorem Wr.kept {w w' : World} {b : Nat} {v : Value} {bs : List UInt8} {S : List Nat} (h : Wr w b v bs) (hk : Kept S w w') (hb : b ∉ S) (hd : ∀ k ∈ rowOf v, k ∉ S) : Wr w' b v bs :=
  ⟨h.blk.kept hk hb, h.own.kept hk hd⟩

/-- from w to w' the writer at b, whose row was v, has come to hold bs -/
def WrTo (w : World) (b : Nat) (v : Value) (bs : List UInt8) (w' : World) : Prop :=
  ∃ v', Wr w' b v' bs ∧ Kept (b :: rowOf v) w w' ∧ ∀ k ∈ rowOf v', k ∈ rowOf v ∨ w.heap.size ≤ k
theorem WrTo.refl {w : World} {b : Nat} {v : Value} {bs : List UInt8} (h : Wr w b v bs) : WrTo w b v bs w := ⟨v, h, Kept.refl _ _, fun _ hk => .inl hk⟩
theorem WrTo.step {w w1 w2 : World} {b : Nat} {v v1 : Value} {bs : List UInt8} (hk : Kept (b :: rowOf v) w w1) (hr : ∀ k ∈ rowOf v1, k ∈ rowOf v ∨ w.heap.size ≤ k) (h2 : WrTo w1 b v1 bs w2) : WrTo w b v bs w2 := by
  obtain ⟨v2, a1, a2, a3⟩ := h2
  refine ⟨v2, a1, hk.trans a2 (fun i hi => ?_), fun k hk' => ?_⟩
  · rcases List.mem_cons.1 hi with h | h
    · exact .inl (by simp [h])
    · rcases hr i h with h | h
      · exact .inl (by simp [h])
      · exact .inr h
  · rcases a3 k hk' with h | h
    · exact hr k h
    · exact .inr (by have := hk.size; omega)
theorem WrTo.app {w w1 w2 : World} {b n : Nat} {v v2 : Value} {bs cs : List UInt8} {xs : List Value} (h : Wr w b v bs) (h1 : Kept [] w w1) (ho : Own w2 5 1 v2 n (u8s bs ++ xs)) (hx : xs = u8s cs) (hk : Kept (rowOf v) w1 w2)
    (hr : ∀ k ∈ rowOf v2, k ∈ rowOf v ∨ w1.heap.size ≤ k) : WrTo w b v (bs ++ cs) (w2.setCell ⟨b, 0, none⟩ v2) := by
  have hb := (h.blk.kept h1 (by simp)).kept hk h.ne
  have hs := h1.size
  have hlt := h.blk.lt
  refine ⟨v2, ⟨hb.set 0 _, ?_⟩, ?_, fun k hk' => by rcases hr k hk' with h3 | h3; exact .inl h3; exact .inr (by omega)⟩
  · have hn : n = (bs ++ cs).length := by have := ho.1; rw [hx] at this; simp [u8s] at this; simp; omega
    rw [u8s_app, ← hn, ← hx]
    refine ho.far (fun k hk' => ?_) v2
    rcases hr k hk' with h3 | h3
    · exact fun e => h.ne (by have e : k = b := e; rw [← e]; exact h3)
    · simp; omega
  · exact ((h1.mono (by simp)).trans hk (fun i hi => .inl (by simp [hi]))).setCell (.inl (by simp)) _

theorem wrap_u8 (n : Nat) : IntKind.u8.wrap (n : Int) = ((UInt8.ofNat n).toNat : Int) := by
  rw [IntKind.wrap_u8]; simp
theorem shr_u8 (x width k : Nat) (h : k < width) : IntKind.u8.wrap ((x : Int) / 2 ^ (8 * ((width : Int) - 1 - k)).toNat) = ((UInt8.ofNat (x / 2 ^ (8 * (width - 1 - k)))).toNat : Int) := by
  rw [show (8 * ((width : Int) - 1 - k)).toNat = 8 * (width - 1 - k) by omega, ← wrap_u8]; congr 1
/-- the first k of the bytes of x as a number of so many bytes -/
def beK (x width k : Nat) : List UInt8 := (List.range k).map fun i => UInt8.ofNat (x / 2 ^ (8 * (width - 1 - i)))
theorem beK_succ (x width k : Nat) : beK x width (k + 1) = beK x width k ++ [UInt8.ofNat (x / 2 ^ (8 * (width - 1 - k)))] := by simp [beK, List.range_succ]
theorem beK_len (x width k : Nat) : (beK x width k).length = k := by simp [beK]
theorem elem_u8 : Elem Tryd.prog 32 5 1 1 := Elem.mk' Tryd.underlying32 info_u8 rfl (by omega)

set_option maxHeartbeats 400000 in
theorem put_any (w : World) (b : Nat) (v : Value) (bs : List UInt8) (h : Wr w b v bs) (x width : Nat) (hwd : width ≤ 8) (hl : bs.length ≤ 1099511627776) :
    Calls Tryd.prog 50 #[.pointer (some ⟨b, 0, none⟩), .int .u64 x, .int .i64 width] w fun e w' => e = .returned (.tuple #[]) ∧ WrTo w b v (bs ++ beK x width width) w' := by
  go_enter Tryd.func50, Tryd.ntmps50
  go_wp2
  go_loopg [6, 10] width (fun g i c wr => ∃ k : Nat, k ≤ width ∧ g = width - k ∧ c = .int .i64 k ∧ WrTo w b v (bs ++ beK x width k) wr)
  case atStart => exact ⟨0, by omega, by omega, rfl, by simpa [beK] using WrTo.refl h⟩
  case round =>
    obtain ⟨k, hk, rfl, rfl, v', hw1, hk1, hr1⟩ := hrel
    have Hw := Lib.hid hw1
    have Hk := Lib.hid hk1
    have Hr := Lib.hid hr1
    have hc := hw1.blk.cell 0
    have hblt := hw1.blk.lt
    have hf := hw1.blk.frozen 0
    simp only [List.getElem?_toArray, List.getElem?_cons_zero] at hc
    clear hw1 hk1 hr1 h
    by_cases hlt : k < width
    · have s1 : IntKind.i64.wrap ((width : Int) - 1) = (width : Int) - 1 := IntWalk.i64_in _ (by omega)
      have s2 : IntKind.i64.wrap ((width : Int) - 1 - k) = (width : Int) - 1 - k := IntWalk.i64_in _ (by omega)
      have s3 : IntKind.i64.wrap (8 * ((width : Int) - 1 - k)) = 8 * ((width : Int) - 1 - k) := IntWalk.i64_in _ (by omega)
      have s4 : (0 : Int) ≤ 8 * ((width : Int) - 1 - k) := by omega
      have hlen : (bs ++ beK x width k).length + 1 ≤ maxLen := by simp [beK]; unfold maxLen; omega
      have hlen2 : ((bs ++ beK x width k).length + 1) * 1 ≤ 140737488355328 := by simp [beK]; omega
      go_wp2
      go_region_law (refine step_app _ rfl (.tmp 17) (.tmp 26) 32 rfl elem_u8 (by simp [Act.eval]) (Hw.out.own.drew.alloc _) (by simp [Act.eval]; rfl) (Rd.one _ _ _) rfl (by simp [Value.oneCell']) hlen hlen2 ?_; intro v2 w2 ho2 hk2 hr2; have hb2 := ((Hw.out.blk.drew.alloc _).kept hk2 Hw.out.ne); have hc2 := hb2.cell 0; have hf2 := hb2.frozen 0; simp only [List.getElem?_toArray, List.getElem?_cons_zero] at hc2; have Hb2 := Lib.hid hb2; have Ho2 := Lib.hid ho2; have Hk2 := Lib.hid hk2; have Hr2 := Lib.hid hr2; clear hb2 ho2 hk2 hr2; obtain ⟨A2, n2, c2, rfl⟩ := Ho2.out.form')
      all_goals
        go_wp2
        go_roundg (width - (k + 1))
        case measure => omega
        case rel =>
          refine ⟨k + 1, by omega, rfl, by go_num, WrTo.step Hk.out Hr.out ?_⟩
          rw [beK_succ, ← List.append_assoc]
          exact WrTo.app Hw.out ((Kept.refl _ _).alloc _ |>.drew) Ho2.out (by rw [shr_u8 x width k hlt]; rfl) Hk2.out Hr2.out
    · go_wp2
      go_end0
      obtain rfl : k = width := by omega
      exact ⟨rfl, v', Hw.out, Hk.out, Hr.out⟩

set_option maxHeartbeats 400000 in
theorem Len_nil (w : World) : Calls Tryd.prog 15 #[.pointer none] w fun e w' => e = .returned (.int .i64 0) ∧ w = w' := by
  go_enter Tryd.func15, Tryd.ntmps15
  go_wp2
  go_ret
  exact ⟨rfl, rfl⟩
set_option maxHeartbeats 400000 in
theorem Len_any (w : World) (b : Nat) (v : Value) (bs : List UInt8) (h : Wr w b v bs) : Calls Tryd.prog 15 #[.pointer (some ⟨b, 0, none⟩)] w fun e w' => e = .returned (.int .i64 bs.length) ∧ w = w' := by
  obtain ⟨A, cap, rfl, h1, h2⟩ := h.own.form
  have hc := h.blk.cell 0
  clear h
  go_enter Tryd.func15, Tryd.ntmps15
  go_wp2
  go_ret
  exact ⟨rfl, rfl⟩
end Go.Proofs.YtflbeipnnmeiaaaDoor
