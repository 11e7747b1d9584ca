
/-
  Contracts of octet.Reader's functions.
-/
import Derived.Test.YtoibecclilmllaaBase
import Derived.Test.YtoibecclilmllaaRows
import Derived.Deep.RegionHeld3
import Derived.Deep.RegionLaw
import Derived.Deep.LoopGhost
import Derived.Outline
section
namespace Go.Proofs.Ytoibecclilmllaa
open Go.RowKit
set_option linter.unusedVariables false

abbrev u8v (b : UInt8) : Value := .int .u8 (b.toNat : Int)
def u8s (bs : List UInt8) : List Value := bs.map u8v
theorem u8s_len (bs : List UInt8) : (u8s bs).length = bs.length := by simp [u8s]
theorem u8s_app (a b : List UInt8) : u8s (a ++ b) = u8s a ++ u8s b := by simp [u8s]
theorem u8s_one (bs : List UInt8) : ∀ u ∈ u8s bs, u.oneCell' = true := by
  intro u hu; obtain ⟨_, _, rfl⟩ := List.mem_map.1 hu; rfl
theorem info_u8 : (Try.prog.info? 5).map (fun i => (i.zero, i.size, i.bytes)) = some (some (.int .u8 0), 1, 1) := by kernel_rfl

/-- the writer at block b has written bs; v is its row -/
structure Wr (w : World) (b : Nat) (v : Value) (bs : List UInt8) : Prop where
  blk : Blk w b 54 #[v]
  own : Own w 5 1 v bs.length (u8s bs)

theorem Wr.ne {w : World} {b : Nat} {v : Value} {bs : List UInt8} (h : Wr w b v bs) : b ∉ rowOf v := h.own.ne_blk h.blk (by decide)
theorem Wr.kept {w w' : World} {b : Nat} {v : Value} {bs : List UInt8} {S : List Nat} (h : Wr w b v bs) (hk : Kept S w w') (hb : b ∉ S) (hd : ∀ k ∈ rowOf v, k ∉ S) : Wr w' b v bs :=
  ⟨h.blk.kept hk hb, h.own.kept hk hd⟩

/-- from w to w' the writer at b, whose row was v, has come to hold bs -/
def WrTo (w : World) (b : Nat) (v : Value) (bs : List UInt8) (w' : World) : Prop :=
  ∃ v', Wr w' b v' bs ∧ Kept (b :: rowOf v) w w' ∧ ∀ k ∈ rowOf v', k ∈ rowOf v ∨ w.heap.size ≤ k
theorem WrTo.refl {w : World} {b : Nat} {v : Value} {bs : List UInt8} (h : Wr w b v bs) : WrTo w b v bs w := ⟨v, h, Kept.refl _ _, fun _ hk => .inl hk⟩
theorem WrTo.step {w w1 w2 : World} {b : Nat} {v v1 : Value} {bs : List UInt8} (hk : Kept (b :: rowOf v) w w1) (hr : ∀ k ∈ rowOf v1, k ∈ rowOf v ∨ w.heap.size ≤ k) (h2 : WrTo w1 b v1 bs w2) : WrTo w b v bs w2 := by
  obtain ⟨v2, a1, a2, a3⟩ := h2
  refine ⟨v2, a1, hk.trans a2 (fun i hi => ?_), fun k hk' => ?_⟩
  · rcases List.mem_cons.1 hi with h | h
    · exact .inl (by simp [h])
    · rcases hr i h with h | h
      · exact .inl (by simp [h])
      · exact .inr h
  · rcases a3 k hk' with h | h
    · exact hr k h
    · exact .inr (by have := hk.size; omega)
theorem WrTo.app {w w1 w2 : World} {b n : Nat} {v v2 : Value} {bs cs : List UInt8} {xs : List Value} (h : Wr w b v bs) (h1 : Kept [] w w1) (ho : Own w2 5 1 v2 n (u8s bs ++ xs)) (hx : xs = u8s cs) (hk : Kept (rowOf v) w1 w2)
    (hr : ∀ k ∈ rowOf v2, k ∈ rowOf v ∨ w1.heap.size ≤ k) : WrTo w b v (bs ++ cs) (w2.setCell ⟨b, 0, none⟩ v2) := by
  have hb := (h.blk.kept h1 (by simp)).kept hk h.ne
  have hs := h1.size
  have hlt := h.blk.lt
  refine ⟨v2, ⟨hb.set 0 _, ?_⟩, ?_, fun k hk' => by rcases hr k hk' with h3 | h3; exact .inl h3; exact .inr (by omega)⟩
  · have hn : n = (bs ++ cs).length := by have := ho.1; rw [hx] at this; simp [u8s] at this; simp; omega
    rw [u8s_app, ← hn, ← hx]
    refine ho.far (fun k hk' => ?_) v2
    rcases hr k hk' with h3 | h3
    · exact fun e => h.ne (by have e : k = b := e; rw [← e]; exact h3)
    · simp; omega
  · exact ((h1.mono (by simp)).trans hk (fun i hi => .inl (by simp [hi]))).setCell (.inl (by simp)) _

theorem wrap_u8 (n : Nat) : IntKind.u8.wrap (n : Int) = ((UInt8.ofNat n).toNat : Int) := by
  rw [IntKind.wrap_u8]; simp
theorem shr_u8 (x width k : Nat) (h : k < width) : IntKind.u8.wrap ((x : Int) / 2 ^ (8 * ((width : Int) - 1 - k)).toNat) = ((UInt8.ofNat (x / 2 ^ (8 * (width - 1 - k)))).toNat : Int) := by
  rw [show (8 * ((width : Int) - 1 - k)).toNat = 8 * (width - 1 - k) by omega, ← wrap_u8]; congr 1
/-- the first k of the bytes of x as a number of so many bytes -/
def beK (x width k : Nat) : List UInt8 := (List.range k).map fun i => UInt8.ofNat (x / 2 ^ (8 * (width - 1 - i)))
theorem beK_succ (x width k : Nat) : beK x width (k + 1) = beK x width k ++ [UInt8.ofNat (x / 2 ^ (8 * (width - 1 - k)))] := by simp [beK, List.range_succ]
theorem beK_len (x width k : Nat) : (beK x width k).length = k := by simp [beK]
theorem elem_u8 : Elem Try.prog 37 5 1 1 := Elem.mk' Try.underlying37 info_u8 rfl (by omega)

set_option maxHeartbeats 400000 in
theorem put_any (w : World) (b : Nat) (v : Value) (bs : List UInt8) (h : Wr w b v bs) (x width : Nat) (hwd : width ≤ 8) (hl : bs.length ≤ 1099511627776) :
    Calls Try.prog 40 #[.pointer (some ⟨b, 0, none⟩), .int .u64 x, .int .i64 width] w fun e w' => e = .returned (.tuple #[]) ∧ WrTo w b v (bs ++ beK x width width) w' := by
  go_enter Try.func40, Try.ntmps40
  go_wp2
  go_loopg [6, 10] width (fun g i c wr => ∃ k : Nat, k ≤ width ∧ g = width - k ∧ c = .int .i64 k ∧ WrTo w b v (bs ++ beK x width k) wr)
  case atStart => exact ⟨0, by omega, by omega, rfl, by simpa [beK] using WrTo.refl h⟩
  case round =>
    obtain ⟨k, hk, rfl, rfl, v', hw1, hk1, hr1⟩ := hrel
    have Hw := Lib.hid hw1
    have Hk := Lib.hid hk1
    have Hr := Lib.hid hr1
    have hc := hw1.blk.cell 0
    have hblt := hw1.blk.lt
    have hf := hw1.blk.frozen 0
    simp only [List.getElem?_toArray, List.getElem?_cons_zero] at hc
    clear hw1 hk1 hr1 h
    by_cases hlt : k < width
    · have s1 : IntKind.i64.wrap ((width : Int) - 1) = (width : Int) - 1 := IntWalk.i64_in _ (by omega)
      have s2 : IntKind.i64.wrap ((width : Int) - 1 - k) = (width : Int) - 1 - k := IntWalk.i64_in _ (by omega)
      have s3 : IntKind.i64.wrap (8 * ((width : Int) - 1 - k)) = 8 * ((width : Int) - 1 - k) := IntWalk.i64_in _ (by omega)
      have s4 : (0 : Int) ≤ 8 * ((width : Int) - 1 - k) := by omega
      have hlen : (bs ++ beK x width k).length + 1 ≤ maxLen := by simp [beK]; unfold maxLen; omega
      have hlen2 : ((bs ++ beK x width k).length + 1) * 1 ≤ 140737488355328 := by simp [beK]; omega
      go_wp2
      go_region_law (refine step_app _ rfl (.tmp 17) (.tmp 26) 37 rfl elem_u8 (by simp [Act.eval]) (Hw.out.own.drew.alloc _) (by simp [Act.eval]; rfl) (Rd.one _ _ _) rfl (by simp [Value.oneCell']) hlen hlen2 ?_; intro v2 w2 ho2 hk2 hr2; have hb2 := ((Hw.out.blk.drew.alloc _).kept hk2 Hw.out.ne); have hc2 := hb2.cell 0; have hf2 := hb2.frozen 0; simp only [List.getElem?_toArray, List.getElem?_cons_zero] at hc2; have Hb2 := Lib.hid hb2; have Ho2 := Lib.hid ho2; have Hk2 := Lib.hid hk2; have Hr2 := Lib.hid hr2; clear hb2 ho2 hk2 hr2; obtain ⟨A2, n2, c2, rfl⟩ := Ho2.out.form')
      all_goals
        go_wp2
        go_roundg (width - (k + 1))
        case measure => omega
        case rel =>
          refine ⟨k + 1, by omega, rfl, by go_num, WrTo.step Hk.out Hr.out ?_⟩
          rw [beK_succ, ← List.append_assoc]
          exact WrTo.app Hw.out ((Kept.refl _ _).alloc _ |>.drew) Ho2.out (by rw [shr_u8 x width k hlt]; rfl) Hk2.out Hr2.out
    · go_wp2
      go_end0
      obtain rfl : k = width := by omega
      exact ⟨rfl, v', Hw.out, Hk.out, Hr.out⟩

end Go.Proofs.Ytoibecclilmllaa
end

section
namespace Go.Proofs.Ytoibecclilmllaa
open Go.RowKit
set_option linter.unusedVariables false

/-- a number as 64 bits -/
def nat64 (n : Int) : Nat := (n % 18446744073709551616).toNat
theorem nat64_cast (n : Int) : ((nat64 n : Nat) : Int) = n % 18446744073709551616 := by unfold nat64; omega
theorem wrap_u64 (n : Int) : IntKind.u64.wrap n = (nat64 n : Int) := by rw [IntKind.wrap_u64, nat64_cast]
theorem nat64_small (n : Nat) (h : n < 18446744073709551616) : nat64 n = n := by unfold nat64; omega

set_option maxHeartbeats 400000 in
theorem put_nil (w : World) (x width : Int) : Calls Try.prog 40 #[.pointer none, .int .u64 x, .int .i64 width] w fun e w' => e = .returned (.tuple #[]) ∧ w = w' := by
  go_enter Try.func40, Try.ntmps40
  go_wp2
  refine bodyPost_ret (results_none rfl _ _ _) rfl ?_
  exact ⟨rfl, rfl⟩

set_option maxHeartbeats 400000 in
theorem WU8_any (w : World) (b : Nat) (v : Value) (bs : List UInt8) (h : Wr w b v bs) (n : Int) (hl : bs.length ≤ 1099511627776) :
    Calls Try.prog 38 #[.pointer (some ⟨b, 0, none⟩), .int .i64 n] w fun e w' => e = .returned (.tuple #[]) ∧ WrTo w b v (bs ++ beK (nat64 n) 1 1) w' := by
  have hn := wrap_u64 n
  have H := Lib.hid h
  clear h
  go_enter Try.func38, Try.ntmps38
  go_wp2_with fail
  refine (put_any w b v bs H.out (nat64 n) 1 (by omega) hl).mono ?_
  rintro e w' ⟨rfl, h2⟩
  go_wp2
  go_end0
  exact ⟨rfl, h2⟩

set_option maxHeartbeats 400000 in
theorem WU16_any (w : World) (b : Nat) (v : Value) (bs : List UInt8) (h : Wr w b v bs) (n : Int) (hl : bs.length ≤ 1099511627776) :
    Calls Try.prog 34 #[.pointer (some ⟨b, 0, none⟩), .int .i64 n] w fun e w' => e = .returned (.tuple #[]) ∧ WrTo w b v (bs ++ beK (nat64 n) 2 2) w' := by
  have hn := wrap_u64 n
  have H := Lib.hid h
  clear h
  go_enter Try.func34, Try.ntmps34
  go_wp2_with fail
  skip
  refine (put_any w b v bs H.out (nat64 n) 2 (by omega) hl).mono ?_
  rintro e w' ⟨rfl, h2⟩
  go_wp2
  go_end0
  exact ⟨rfl, h2⟩

set_option maxHeartbeats 400000 in
theorem WU32_any (w : World) (b : Nat) (v : Value) (bs : List UInt8) (h : Wr w b v bs) (n : Nat) (h1 : n < 4294967296) (hl : bs.length ≤ 1099511627776) :
    Calls Try.prog 36 #[.pointer (some ⟨b, 0, none⟩), .int .u32 n] w fun e w' => e = .returned (.tuple #[]) ∧ WrTo w b v (bs ++ beK n 4 4) w' := by
  have hn : IntKind.u64.wrap (n : Int) = (n : Int) := by rw [IntKind.wrap_u64]; omega
  have H := Lib.hid h
  clear h
  go_enter Try.func36, Try.ntmps36
  go_wp2_with fail
  refine (put_any w b v bs H.out n 4 (by omega) hl).mono ?_
  rintro e w' ⟨rfl, h2⟩
  go_wp2
  go_end0
  exact ⟨rfl, h2⟩

set_option maxHeartbeats 400000 in
theorem WI64_any (w : World) (b : Nat) (v : Value) (bs : List UInt8) (h : Wr w b v bs) (n : Int) (hl : bs.length ≤ 1099511627776) :
    Calls Try.prog 37 #[.pointer (some ⟨b, 0, none⟩), .int .i64 n] w fun e w' => e = .returned (.tuple #[]) ∧ WrTo w b v (bs ++ beK (nat64 n) 8 8) w' := by
  have hn := wrap_u64 n
  have H := Lib.hid h
  clear h
  go_enter Try.func37, Try.ntmps37
  go_wp2_with fail
  skip
  refine (put_any w b v bs H.out (nat64 n) 8 (by omega) hl).mono ?_
  rintro e w' ⟨rfl, h2⟩
  go_wp2
  go_end0
  exact ⟨rfl, h2⟩

set_option maxHeartbeats 400000 in
theorem WU8_nil (w : World) (n : Int) : Calls Try.prog 38 #[.pointer none, .int .i64 n] w fun e w' => e = .returned (.tuple #[]) ∧ w = w' := by
  go_enter Try.func38, Try.ntmps38
  go_wp2_with (go_at_call 40; refine (put_nil _ _ _).mono ?_; rintro e w' ⟨rfl, rfl⟩)
  go_end0
  exact ⟨rfl, rfl⟩

set_option maxHeartbeats 400000 in
theorem WU16_nil (w : World) (n : Int) : Calls Try.prog 34 #[.pointer none, .int .i64 n] w fun e w' => e = .returned (.tuple #[]) ∧ w = w' := by
  go_enter Try.func34, Try.ntmps34
  go_wp2_with (go_at_call 40; refine (put_nil _ _ _).mono ?_; rintro e w' ⟨rfl, rfl⟩)
  go_end0
  exact ⟨rfl, rfl⟩

set_option maxHeartbeats 400000 in
theorem WU32_nil (w : World) (n : Int) : Calls Try.prog 36 #[.pointer none, .int .u32 n] w fun e w' => e = .returned (.tuple #[]) ∧ w = w' := by
  go_enter Try.func36, Try.ntmps36
  go_wp2_with (go_at_call 40; refine (put_nil _ _ _).mono ?_; rintro e w' ⟨rfl, rfl⟩)
  go_end0
  exact ⟨rfl, rfl⟩

set_option maxHeartbeats 400000 in
theorem WI64_nil (w : World) (n : Int) : Calls Try.prog 37 #[.pointer none, .int .i64 n] w fun e w' => e = .returned (.tuple #[]) ∧ w = w' := by
  go_enter Try.func37, Try.ntmps37
  go_wp2_with (go_at_call 40; refine (put_nil _ _ _).mono ?_; rintro e w' ⟨rfl, rfl⟩)
  go_end0
  exact ⟨rfl, rfl⟩

theorem eql_nil8 : ∀ (w : World) (a : Option Addr) (n c n' c' : Nat), (binOp .eql 37 (.slice a n c) (.slice none n' c')).run Try.prog w = .ok (.bool a.isNone) w :=
  fun w a n c n' c' => Lib.run_eql_slice_nil w _ _ a n c n' c' Try.underlying37

/-- a slice of the call's own that was not there before w -/
def New (w : World) (e : TypeId) (s : Nat) (v : Value) (n : Nat) (xs : List Value) (w' : World) : Prop := Own w' e s v n xs ∧ Kept [] w w' ∧ ∀ k ∈ rowOf v, w.heap.size ≤ k
theorem New.nil (w : World) (e : TypeId) (s : Nat) : New w e s (.slice none 0 0) 0 [] w := ⟨Own.nil _ _ _, Kept.refl _ _, fun k hk => by simp [rowOf, Value.ownBlock] at hk⟩

set_option maxHeartbeats 400000 in
theorem Clone8_any (w : World) (A : Option Addr) (m c : Nat) (cs : List UInt8) (hr : Rd w A (u8s cs)) (hm : cs.length = m) (hA : A = none → m = 0 ∧ c = 0) (hl : m ≤ 140737488355328) :
    Calls Try.prog 39 #[.slice A m c] w fun e w' => ∃ v, e = .returned v ∧ New w 5 1 v m (u8s cs) w' := by
  cases A with
  | none =>
    obtain ⟨rfl, rfl⟩ := hA rfl
    obtain rfl : cs = [] := List.eq_nil_of_length_eq_zero hm
    have hq := eql_nil8
    go_enter Try.func39, Try.ntmps39
    go_wp2
    go_ret
    exact ⟨_, rfl, New.nil _ _ _⟩
  | some a =>
    have Hr := Lib.hid hr
    have Hm := Lib.hid hm
    clear hr hm hA
    have hq := eql_nil8
    go_enter Try.func39, Try.ntmps39
    go_wp2_with (at_builtin; refine wpList_app _ rfl (.tmp 5) (.tmp 6) 37 rfl elem_u8 (by rfl) (World.ownsRow_made w #[] 0 (Nat.zero_le _) (by unfold maxLen; omega) rfl) (by rfl) (Hr.out.alloc _) (by rw [u8s_len, Hm.out]; omega) (u8s_one _) (by unfold maxLen; omega) (by omega) ?_; intro v2 w2 ho2 hk2 hr2)
    go_ret
    refine ⟨v2, rfl, by simpa using ho2, ?_, fun k hk => ?_⟩
    · exact ((Kept.refl [] w).alloc _).trans hk2 (fun i hi => .inr (by simp [rowOf, Value.ownBlock] at hi; omega))
    · rcases hr2 k hk with h1 | h1
      · simp [rowOf, Value.ownBlock] at h1; omega
      · simp at h1; omega

set_option maxHeartbeats 400000 in
theorem Bytes_nil (w : World) : Calls Try.prog 32 #[.pointer none] w fun e w' => e = .returned (.slice none 0 0) ∧ w = w' := by
  go_enter Try.func32, Try.ntmps32
  go_wp2
  go_ret
  exact ⟨rfl, rfl⟩

theorem Own.slice {w : World} {e : TypeId} {s n : Nat} {v : Value} {xs : List Value} (h : Own w e s v n xs) : ∃ A cap, v = .slice A n cap ∧ n ≤ cap ∧ cap ≤ maxLen ∧ Rd w A xs ∧ addrOf A = rowOf v ∧ (A = none → n = 0 ∧ cap = 0) := by
  rcases h.2 with ⟨rfl, h0⟩ | ⟨g, cap, cur, rfl, hb, hg, hn, hm, hs, ht⟩
  · obtain ⟨A, cap, h1, h2, h3, h4, h5⟩ := Rd.of_own h
    injection h1 with e1 e2 e3
    subst e1 e3
    exact ⟨none, 0, by rw [← e2], h2, h3, h4, h5, fun _ => ⟨e2.symm, rfl⟩⟩
  · obtain ⟨A, cap, h1, h2, h3, h4, h5⟩ := Rd.of_own h
    injection h1 with e1 e2 e3
    subst e1 e3
    exact ⟨_, _, rfl, h2, h3, h4, h5, fun h => by cases h⟩

set_option maxHeartbeats 400000 in
theorem Bytes_any (w : World) (b : Nat) (v : Value) (bs : List UInt8) (h : Wr w b v bs) (hl : bs.length ≤ 140737488355328) :
    Calls Try.prog 32 #[.pointer (some ⟨b, 0, none⟩)] w fun e w' => ∃ v, e = .returned v ∧ New w 5 1 v bs.length (u8s bs) w' := by
  obtain ⟨A, cap, rfl, h1, h2, h3, h4, h5⟩ := h.own.slice
  have hc := h.blk.cell 0
  simp only [List.getElem?_toArray, List.getElem?_cons_zero] at hc
  have H3 := Lib.hid h3
  have H5 := Lib.hid h5
  clear h h3 h4 h5
  go_enter Try.func32, Try.ntmps32
  go_wp2_with fail
  refine (Clone8_any w A bs.length cap bs H3.out rfl H5.out hl).mono ?_
  rintro e w' ⟨v', rfl, h6⟩
  have H6 := Lib.hid h6
  clear h6
  go_wp2
  go_ret
  exact ⟨v', rfl, H6.out⟩
end Go.Proofs.Ytoibecclilmllaa
end

section
namespace Go.Proofs.Ytoibecclilmllaa
open Go.RowKit
set_option linter.unusedVariables false

/-- v is a slice of bytes that lies in blocks of G and reads bs -/
def RdB (w : World) (G : List Nat) (v : Value) (bs : List UInt8) : Prop :=
  ∃ A m c, v = .slice A m c ∧ bs.length = m ∧ m ≤ c ∧ c ≤ maxLen ∧ Rd w A (u8s bs) ∧ (∀ k ∈ addrOf A, bs ≠ [] → k ∈ G) ∧ (A = none → m = 0 ∧ c = 0)
theorem u8s_ne {bs : List UInt8} (h : u8s bs ≠ []) : bs ≠ [] := by rintro rfl; exact h rfl
theorem u8s_nil {bs : List UInt8} (h : u8s bs = []) : bs = [] := by simpa [u8s] using h
theorem RdB.kept {w w' : World} {G S : List Nat} {v : Value} {bs : List UInt8} (h : RdB w G v bs) (hk : Kept S w w') (hd : ∀ k ∈ G, k ∉ S) : RdB w' G v bs := by
  obtain ⟨A, m, c, h1, h2, h3, h4, h5, h6, h7⟩ := h
  exact ⟨A, m, c, h1, h2, h3, h4, h5.kept hk (fun hne k hk' => hd k (h6 k hk' (u8s_ne hne))), h6, h7⟩
theorem RdB.rd {w : World} {G : List Nat} {A : Option Addr} {m c : Nat} {bs : List UInt8} (h : RdB w G (.slice A m c) bs) : Rd w A (u8s bs) := by
  obtain ⟨A', m', c', e, h2, h3, h4, h5, h6, h7⟩ := h
  injection e with e1 e2 e3
  subst e1 e2 e3
  exact h5
theorem RdB.len {w : World} {G : List Nat} {A : Option Addr} {m c : Nat} {bs : List UInt8} (h : RdB w G (.slice A m c) bs) : bs.length = m ∧ m ≤ c ∧ c ≤ maxLen ∧ (A = none → m = 0 ∧ c = 0) := by
  obtain ⟨A', m', c', e, h2, h3, h4, h5, h6, h7⟩ := h
  injection e with e1 e2 e3
  subst e1 e2 e3
  exact ⟨h2, h3, h4, h7⟩
theorem RdB.of_own {w : World} {v : Value} {bs : List UInt8} {n : Nat} (h : Own w 5 1 v n (u8s bs)) : RdB w (rowOf v) v bs := by
  obtain ⟨A, c, rfl, h1, h2, h3, h4, h5⟩ := h.slice
  exact ⟨A, n, c, rfl, by have := h.1; simp [u8s] at this; omega, h1, h2, h3, fun k hk _ => h4 ▸ hk, h5⟩
theorem RdB.mono {w : World} {G G' : List Nat} {v : Value} {bs : List UInt8} (h : RdB w G v bs) (hg : ∀ k ∈ G, k ∈ G') : RdB w G' v bs := by
  obtain ⟨A, m, c, h1, h2, h3, h4, h5, h6, h7⟩ := h
  exact ⟨A, m, c, h1, h2, h3, h4, h5, fun k hk hne => hg k (h6 k hk hne), h7⟩

/-- the reader (a struct of type t) at block b has bs left, which lie in blocks of G; its error is e -/
structure RdrT (t : TypeId) (w : World) (b : Nat) (G : List Nat) (bs : List UInt8) (e : Int) : Prop where
  ex : ∃ v, Blk w b t #[v, .int .i64 e] ∧ RdB w G v bs
  ne : b ∉ G
theorem RdrT.kept {t : TypeId} {w w' : World} {b : Nat} {G S : List Nat} {bs : List UInt8} {e : Int} (h : RdrT t w b G bs e) (hk : Kept S w w') (hb : b ∉ S) (hd : ∀ k ∈ G, k ∉ S) : RdrT t w' b G bs e := by
  obtain ⟨v, h1, h2⟩ := h.ex
  exact ⟨⟨v, h1.kept hk hb, h2.kept hk hd⟩, h.ne⟩
theorem RdrT.drewN {t : TypeId} {w : World} {b : Nat} {G : List Nat} {bs : List UInt8} {e : Int} (h : RdrT t w b G bs e) (n : Nat) : RdrT t (w.drewN n) b G bs e := h.kept (S := []) ((Kept.refl _ _).drewN n) (by simp) (by simp)
theorem RdrT.drew {t : TypeId} {w : World} {b : Nat} {G : List Nat} {bs : List UInt8} {e : Int} (h : RdrT t w b G bs e) : RdrT t w.drew b G bs e := h.kept (S := []) (Kept.refl _ _).drew (by simp) (by simp)
/-- what taking n bytes does: what comes, what is left, the error -/
def tk (bs : List UInt8) (e n : Int) : List UInt8 × List UInt8 × Int :=
  if e ≠ 0 ∨ n < 0 then ([], bs, e) else if bs.length < n then ([], [], 2) else (bs.take n.toNat, bs.drop n.toNat, e)

theorem Rd.take {w : World} {A : Option Addr} {bs : List UInt8} (h : Rd w A (u8s bs)) (n : Nat) : Rd w A (u8s (bs.take n)) := by
  intro hne
  have : u8s bs ≠ [] := by
    intro h0; rw [u8s_nil h0] at hne; simp [u8s] at hne
  obtain ⟨g, o, rfl, hc⟩ := h this
  refine ⟨g, o, rfl, fun j u hu => hc j u ?_⟩
  simp only [u8s, List.map_take, List.getElem?_take] at hu
  split at hu
  · exact hu
  · cases hu
theorem Rd.drop {w : World} {A : Option Addr} {bs : List UInt8} (h : Rd w A (u8s bs)) (n : Nat) : Rd w (A.map (·.add n)) (u8s (bs.drop n)) := by
  intro hne
  have : u8s bs ≠ [] := by
    intro h0; rw [u8s_nil h0] at hne; simp [u8s] at hne
  obtain ⟨g, o, rfl, hc⟩ := h this
  refine ⟨g, o + n, by simp [Addr.add_lit], fun j u hu => ?_⟩
  rw [Nat.add_assoc]
  refine hc (n + j) u ?_
  simpa [u8s, List.getElem?_drop] using hu

theorem ne_take {bs : List UInt8} {k : Nat} (h : bs.take k ≠ []) : bs ≠ [] := by rintro rfl; simp at h
theorem ne_drop {bs : List UInt8} {k : Nat} (h : bs.drop k ≠ []) : bs ≠ [] := by rintro rfl; simp at h
end Go.Proofs.Ytoibecclilmllaa
end
