
/-
  StateMany.
-/
import Derived.Test.YtdabbkkjmmbigaaStN
import Derived.Test.YtdabbkkjmmbigaaStP
namespace Go.Proofs.Ytdabbkkjmmbigaa
open Go.RowKit Go.ChangeShapes Go.WideShapes Go.ChangeAt Go.Deep Go.MapKept
set_option linter.unusedVariables false

theorem apply_at {w w1 : World} {p : Nat} {S S' : StD} {e0 : Int} (h : StB w w1 p S) (ok : OkS S) (r : RecD) (hb : r.backs = []) (he : errS S r = e0) (hs : applyS S r = S') :
    Calls Try.prog 10 #[.pointer (some ⟨p, 0, none⟩), .agg #[.int .i64 r.kind, .int .u32 (r.tup.src.toNat : Nat), .int .u32 (r.tup.dst.toNat : Nat), .int .i64 r.tup.proto, .int .i64 r.tup.sport, .int .i64 r.tup.dport, .int .i64 r.fb, .int .i64 r.fg, .int .i64 r.fs, .int .i64 r.gen, .slice none 0 0, .int .i64 r.back, .int .i64 r.until_, .int .i64 r.count]] w1 fun e w' => e = .returned (.int .i64 e0) ∧ StB w w' p S' := by
  obtain ⟨G, hG⟩ := small_nil w1
  obtain ⟨bd, bf, A, m, c, h⟩ := h
  refine (Apply_any h ok r (by rw [hb]; exact hG)).mono ?_
  rintro e w' ⟨rfl, _, A, m, c, hs'⟩
  rw [hs] at hs'
  exact ⟨by rw [he], _, _, _, _, _, hs'⟩
theorem ap_flow {w w1 : World} {p i : Nat} (hi : i < 300) (h : StB w w1 p (stM i 0)) : Calls Try.prog 10 #[.pointer (some ⟨p, 0, none⟩), .agg #[.int .i64 1, .int .u32 (i : Nat), .int .u32 0, .int .i64 17, .int .i64 0, .int .i64 0, .int .i64 0, .int .i64 0, .int .i64 0, .int .i64 0, .slice none 0 0, .int .i64 0, .int .i64 0, .int .i64 0]] w1 fun e w' => e = .returned (.int .i64 (if i < 256 then 0 else 9)) ∧ StB w w' p (stM (i + 1) 0) := by
  have := apply_at h (stM_ok i 0 (by omega) (by omega)) (rM i) rfl (put_step i hi).1 (put_step i hi).2
  have e : (((rM i).tup.src.toNat : Nat) : Int) = (i : Int) := by
    show (((UInt32.ofNat i).toNat : Nat) : Int) = (i : Int)
    simp
    omega
  rw [e] at this
  exact this
theorem ap_drain {w w1 : World} {p n i : Nat} (hn : n ≤ 300) (hi : i < 99) (h : StB w w1 p (stM n i)) : Calls Try.prog 10 #[.pointer (some ⟨p, 0, none⟩), .agg #[.int .i64 4, .int .u32 0, .int .u32 0, .int .i64 0, .int .i64 0, .int .i64 0, .int .i64 0, .int .i64 0, .int .i64 0, .int .i64 0, .slice none 0 0, .int .i64 (i : Nat), .int .i64 5, .int .i64 0]] w1 fun e w' => e = .returned (.int .i64 (if i < 16 then 0 else 9)) ∧ StB w w' p (stM n (i + 1)) := by
  have := apply_at h (stM_ok n i hn (by omega)) (rD i 5) rfl (drain_step n i (by omega)).1 (drain_step n i (by omega)).2
  exact this
theorem ap_last {w w1 : World} {p n k : Nat} (hn : n ≤ 300) (hk : k ≤ 99) (h0 : 0 < n) (h1 : 0 < k) (h : StB w w1 p (stM n k)) : ∃ S1 S2, OkS S2 ∧ lenS S2 = 1 + (min k 16 : Nat) + (min n 256 : Nat) ∧
    (Calls Try.prog 10 #[.pointer (some ⟨p, 0, none⟩), .agg #[.int .i64 1, .int .u32 0, .int .u32 0, .int .i64 17, .int .i64 0, .int .i64 0, .int .i64 9, .int .i64 0, .int .i64 0, .int .i64 0, .slice none 0 0, .int .i64 0, .int .i64 0, .int .i64 0]] w1 fun e w' => e = .returned (.int .i64 0) ∧ StB w w' p S1) ∧
    (∀ w2, StB w w2 p S1 → Calls Try.prog 10 #[.pointer (some ⟨p, 0, none⟩), .agg #[.int .i64 4, .int .u32 0, .int .u32 0, .int .i64 0, .int .i64 0, .int .i64 0, .int .i64 0, .int .i64 0, .int .i64 0, .int .i64 0, .slice none 0 0, .int .i64 0, .int .i64 6, .int .i64 0]] w2 fun e w' => e = .returned (.int .i64 0) ∧ StB w w' p S2) := by
  obtain ⟨a1, a2, a3⟩ := last_flow (n := n) (k := k) h0
  obtain ⟨b1, b2, b3⟩ := last_drain h1 a2
  have ok := stM_ok n k hn hk
  refine ⟨applyS (stM n k) rX, applyS (applyS (stM n k) rX) (rD 0 6), (ok.apply _).apply _, ?_, apply_at h ok rX rfl a1 rfl, fun w2 h2 => apply_at h2 (ok.apply _) (rD 0 6) rfl b1 rfl⟩
  unfold lenS
  rw [b2, b3, a3]
end Go.Proofs.Ytdabbkkjmmbigaa
