/-
  Contracts of frame's functions and of the reference's: Put, Same.
-/
import Derived.Test.YtkacghjglicjiaaGreatOctR
import Derived.Laws.BytesArg
import Derived.Lib.SlBytesConst
namespace Go.Proofs.YtkacghjglicjiaaGreat
set_option linter.unusedVariables false
section
open Go.RowKit
theorem Wr.fresh (w : World) : Wr (w.alloc (.cells #[.slice none 0 0] 111)) w.heap.size (.slice none 0 0) [] := ⟨Blk.new _ _ _, Own.nil _ _ _⟩
def WV (W : World) (b : Nat) (bs : List UInt8) (w : World) : Prop :=
  ∃ v, Wr w b v bs ∧ W.heap.size ≤ b ∧ (∀ k ∈ rowOf v, W.heap.size ≤ k) ∧ Kept [] W w
theorem WV.start {W w : World} (h : Kept [] W w) : WV W w.heap.size [] (w.alloc (.cells #[.slice none 0 0] 111)) :=
  ⟨_, Wr.fresh w, h.size, by simp [rowOf, Value.ownBlock], h.alloc _⟩
theorem WV.kept {W w : World} {b : Nat} {bs : List UInt8} (h : WV W b bs w) : Kept [] W w := by obtain ⟨_, _, _, _, h4⟩ := h; exact h4
theorem WV.go {W w w' : World} {b : Nat} {bs : List UInt8} (h : WV W b bs w) (hk : Kept [] w w') : WV W b bs w' := by
  obtain ⟨v, a1, a2, a3, a4⟩ := h
  exact ⟨v, a1.kept hk (by simp) (by simp), a2, a3, a4.trans hk (by simp)⟩
theorem WV.ge {W w : World} {b : Nat} {bs : List UInt8} (h : WV W b bs w) : W.heap.size ≤ b := by obtain ⟨_, _, h2, _⟩ := h; exact h2
def Apart (w w' : World) : Prop := ∀ g t cs, t ≠ 111 → t ≠ 5 → Blk w g t cs → Blk w' g t cs
theorem Apart.of_kept {w w' : World} (h : Kept [] w w') : Apart w w' := fun g t cs _ _ hb => hb.kept h (by simp)
theorem Apart.trans {a b c : World} (h : Apart a b) (k : Apart b c) : Apart a c := fun g t cs h1 h2 hb => k g t cs h1 h2 (h g t cs h1 h2 hb)
theorem WV.step {W w w' : World} {b : Nat} {v : Value} {bs bs' : List UInt8} (hw : Wr w b v bs) (hb : W.heap.size ≤ b) (hv : ∀ k ∈ rowOf v, W.heap.size ≤ k) (hk : Kept [] W w) (h : WrTo w b v bs' w') : WV W b bs' w' ∧ Apart w w' := by
  obtain ⟨v', a1, a2, a3⟩ := h
  refine ⟨⟨v', a1, hb, fun k hk' => ?_, hk.trans a2 (fun i hi => ?_)⟩, fun g t cs h1 h2 hg => hg.kept a2 (fun hm => ?_)⟩
  · rcases a3 k hk' with h3 | h3
    · exact hv k h3
    · have := hk.size; omega
  · rcases List.mem_cons.1 hi with rfl | hi
    · exact .inr hb
    · exact .inr (hv i hi)
  · rcases List.mem_cons.1 hm with hm | hm
    · exact hg.ne hw.blk h1 hm
    · exact hw.own.ne_blk hg (fun e => h2 e.symm) hm
section
variable {W w : World} {b : Nat} {bs : List UInt8}
theorem VU8 (h : WV W b bs w) (n : Int) (hl : bs.length ≤ 1099511627776) : Calls Tryz.prog 61 #[.pointer (some ⟨b, 0, none⟩), .int .i64 n] w fun e w' => e = .returned (.tuple #[]) ∧ WV W b (bs ++ beK (nat64 n) 1 1) w' ∧ Apart w w' := by
  obtain ⟨v, a1, a2, a3, a4⟩ := h
  exact (WU8_any w b v bs a1 n hl).mono fun e w' ⟨h1, h2⟩ => ⟨h1, WV.step a1 a2 a3 a4 h2⟩
theorem VU16 (h : WV W b bs w) (n : Int) (hl : bs.length ≤ 1099511627776) : Calls Tryz.prog 62 #[.pointer (some ⟨b, 0, none⟩), .int .i64 n] w fun e w' => e = .returned (.tuple #[]) ∧ WV W b (bs ++ beK (nat64 n) 2 2) w' ∧ Apart w w' := by
  obtain ⟨v, a1, a2, a3, a4⟩ := h
  exact (WU16_any w b v bs a1 n hl).mono fun e w' ⟨h1, h2⟩ => ⟨h1, WV.step a1 a2 a3 a4 h2⟩
theorem VU32 (h : WV W b bs w) (x : Int) (n : Nat) (hx : x = n) (h1 : n < 4294967296) (hl : bs.length ≤ 1099511627776) : Calls Tryz.prog 63 #[.pointer (some ⟨b, 0, none⟩), .int .u32 x] w fun e w' => e = .returned (.tuple #[]) ∧ WV W b (bs ++ beK n 4 4) w' ∧ Apart w w' := by
  subst hx
  obtain ⟨v, a1, a2, a3, a4⟩ := h
  exact (WU32_any w b v bs a1 n h1 hl).mono fun e w' ⟨h1, h2⟩ => ⟨h1, WV.step a1 a2 a3 a4 h2⟩
theorem VI64 (h : WV W b bs w) (n : Int) (hl : bs.length ≤ 1099511627776) : Calls Tryz.prog 108 #[.pointer (some ⟨b, 0, none⟩), .int .i64 n] w fun e w' => e = .returned (.tuple #[]) ∧ WV W b (bs ++ beK (nat64 n) 8 8) w' ∧ Apart w w' := by
  obtain ⟨v, a1, a2, a3, a4⟩ := h
  exact (WI64_any w b v bs a1 n hl).mono fun e w' ⟨h1, h2⟩ => ⟨h1, WV.step a1 a2 a3 a4 h2⟩
theorem VRaw (h : WV W b bs w) (cs : List UInt8) {G : List Nat} {A : Option Addr} {m c : Nat} (hr : RdB w G (.slice A m c) cs) (hl : bs.length + m ≤ 17592186044416) : Calls Tryz.prog 60 #[.pointer (some ⟨b, 0, none⟩), .slice A m c] w fun e w' => e = .returned (.tuple #[]) ∧ WV W b (bs ++ cs) w' ∧ Apart w w' := by
  obtain ⟨v, a1, a2, a3, a4⟩ := h
  exact (WRaw_any w b v bs cs a1 A m c hr.rd hr.len.1 hl).mono fun e w' ⟨h1, h2⟩ => ⟨h1, WV.step a1 a2 a3 a4 h2⟩
theorem VBytes (h : WV W b bs w) (hl : bs.length ≤ 140737488355328) : Calls Tryz.prog 59 #[.pointer (some ⟨b, 0, none⟩)] w fun e w' => ∃ A n c, e = .returned (.slice A n c) ∧ bs.length = n ∧ New W 5 1 (.slice A n c) n (u8s bs) w' ∧ WV W b bs w' ∧ Kept [] w w' := by
  have hg := h
  obtain ⟨v, a1, a2, a3, a4⟩ := h
  refine (Bytes_any w b v bs a1 hl).mono fun e w' ⟨v', h1, h2, h3, h4⟩ => ?_
  obtain ⟨A, c, rfl, _, _⟩ := h2.form
  refine ⟨A, _, c, h1, rfl, ⟨h2, a4.trans h3 (by simp), fun k hk => ?_⟩, hg.go h3, h3⟩
  have := h4 k hk; have := a4.size; omega
end
theorem Blk.cells3 {w : World} {g : Nat} {t : TypeId} {a b c : Value} (h : Blk w g t #[a, b, c]) (x y z : Value) :
    (w.setCell ⟨g, 0, none⟩ x).cell? ⟨g, 0, none⟩ = some x ∧ ((w.setCell ⟨g, 0, none⟩ x).setCell ⟨g, 1, none⟩ y).cell? ⟨g, 1, none⟩ = some y ∧ (((w.setCell ⟨g, 0, none⟩ x).setCell ⟨g, 1, none⟩ y).setCell ⟨g, 2, none⟩ z).cell? ⟨g, 2, none⟩ = some z := by
  have h1 := h.set 0 x
  have h2 := h1.set 1 y
  have h3 := h2.set 2 z
  exact ⟨by simpa using h1.cell 0, by simpa using h2.cell 1, by simpa using h3.cell 2⟩
theorem Kept.cells3 {W w : World} {g : Nat} (h : Kept [] W w) (hg : W.heap.size ≤ g) (x y z : Value) : Kept [] W (((w.setCell ⟨g, 0, none⟩ x).setCell ⟨g, 1, none⟩ y).setCell ⟨g, 2, none⟩ z) :=
  h.trans (((((Kept.refl [g] w).setCell (p := ⟨g, 0, none⟩) (.inl (by simp)) x).setCell (p := ⟨g, 1, none⟩) (.inl (by simp)) y).setCell (p := ⟨g, 2, none⟩) (.inl (by simp)) z)) (fun i hi => .inr (by simp at hi; omega))
end
section
open Go.RowKit
theorem RdB.at {w : World} {G : List Nat} {A : Option Addr} {m c : Nat} {bs : List UInt8} (h : RdB w G (.slice A m c) bs) {k : Nat} (hk : k < m) :
    ∃ g o, A = some ⟨g, o, none⟩ ∧ w.cell? ⟨g, o + k, none⟩ = some (.int .u8 ((bs[k]?.getD 0).toNat : Int)) := by
  obtain ⟨A', m', c', e, h2, h3, h4, h5, h6, h7⟩ := h
  injection e with e1 e2 e3
  subst e1 e2 e3
  obtain ⟨g, o, rfl, hc⟩ := h5 (by intro h0; rw [u8s_nil h0] at h2; simp at h2; omega)
  refine ⟨g, o, rfl, hc k _ ?_⟩
  simp [u8s, List.getElem?_eq_getElem (show k < bs.length by omega)]
def num (bs : List UInt8) : Nat := bs.foldl (fun n b => n * 256 + b.toNat) 0
theorem num_snoc (bs : List UInt8) (b : UInt8) : num (bs ++ [b]) = num bs * 256 + b.toNat := by simp [num]
theorem num_lt (bs : List UInt8) : num bs < 256 ^ bs.length := by
  have h : ∀ l : List UInt8, num l.reverse < 256 ^ l.length := by
    intro l
    induction l with
    | nil => simp [num]
    | cons b l ih =>
      rw [List.reverse_cons, num_snoc, List.length_cons, Nat.pow_succ]
      have := b.toNat_lt
      have h : (num l.reverse + 1) * 256 ≤ 256 ^ l.length * 256 := Nat.mul_le_mul_right _ ih
      omega
  simpa using h bs.reverse
theorem num_take (cs : List UInt8) (k : Nat) (h : k < cs.length) : num (cs.take (k + 1)) = num (cs.take k) * 256 + (cs[k]?.getD 0).toNat := by
  rw [List.take_succ_eq_append_getElem h, num_snoc, List.getElem?_eq_getElem h]; rfl
theorem or_step (y : Nat) (c : UInt8) (hy : y * 256 < 18446744073709551616) : bits .or .u64 (IntKind.u64.wrap ((y : Int) * 256)) (IntKind.u64.wrap (c.toNat : Int)) = ((y * 256 + c.toNat : Nat) : Int) := by
  have hc := c.toNat_lt
  rw [show (IntKind.u64.wrap ((y : Int) * 256)) = ((y * 256 : Nat) : Int) by rw [IntKind.wrap_u64]; omega, show IntKind.u64.wrap (c.toNat : Int) = (c.toNat : Int) by rw [IntKind.wrap_u64]; omega, u64_or_nat _ _ hy (by omega), nat_join 8 _ _ (by omega) (by simpa using hc)]
theorem pow256_le {k : Nat} (h : k ≤ 7) : 256 ^ k * 256 ≤ 18446744073709551616 := by
  rw [← Nat.pow_succ]; exact Nat.le_trans (Nat.pow_le_pow_right (by omega) (show k + 1 ≤ 8 by omega)) (by decide)
theorem tk_len (bs : List UInt8) (e : Int) (n : Nat) : (tk bs e n).1.length ≤ n := by
  unfold tk; split; simp; split; simp; simp; omega
set_option maxHeartbeats 400000 in
theorem number_any (w : World) (b : Nat) (G : List Nat) (bs : List UInt8) (e : Int) (n : Nat) (h : Rdr w b G bs e) (hn : n ≤ 8) :
    Calls Tryz.prog 137 #[.pointer (some ⟨b, 0, none⟩), .int .i64 n] w fun en w' => en = .returned (.int .u64 (num (tk bs e n).1 : Nat)) ∧ Rdr w' b G (tk bs e n).2.1 (tk bs e n).2.2 ∧ Kept [b] w w' := by
  go_enter Tryz.func137, Tryz.ntmps137
  go_wp2_with fail
  refine (take_any w b G bs e n h).mono ?_
  rintro en w' ⟨v, rfl, h2, h3, h4⟩
  have H2 := Lib.hid h2
  have H3 := Lib.hid h3
  have H4 := Lib.hid h4
  clear h h2 h3 h4
  obtain ⟨A, m, c, rfl, h6, h7, h8, -⟩ := H2.out
  have hm : m ≤ 8 := by have := tk_len bs e n; omega
  generalize hcs : (tk bs e n).1 = cs at *
  have H6 := Lib.hid h6
  have Hcs := Lib.hid hcs
  clear hcs h6
  unfold maxLen at h8
  go_wp2
  go_loop [5, 12] (fun x i => ∃ k : Nat, k ≤ m ∧ i = .int .i64 k ∧ x = .int .u64 (num (cs.take k) : Nat)) (fun _ i => m - (intOf i).toNat)
  case atStart => exact ⟨0, by omega, rfl, rfl⟩
  case round =>
    obtain ⟨k, hk, rfl, rfl⟩ := hrel
    by_cases hlt : k < m
    · obtain ⟨g, o, rfl, hc⟩ := H2.out.at hlt
      have hb := num_lt (cs.take k)
      rw [List.length_take, Nat.min_eq_left (by rw [H6.out]; omega)] at hb
      have hb2 := pow256_le (show k ≤ 7 by omega)
      have hst := Lib.hid (or_step (num (cs.take k)) (cs[k]?.getD 0) (by omega))
      clear hb hb2
      go_wp2
      go_round
      case rel => exact ⟨k + 1, by omega, by go_num, by rw [hst.out, num_take cs k (by rw [H6.out]; omega)]⟩
      case measure => simp [intOf]; omega
    · go_wp2
      go_ret
      have : cs.take k = cs := List.take_of_length_le (by rw [H6.out]; omega)
      exact ⟨by rw [this, Hcs.out]; rfl, H3.out, H4.out⟩
set_option maxHeartbeats 400000 in
theorem RU8_any (w : World) (b : Nat) (G : List Nat) (bs : List UInt8) (e : Int) (h : Rdr w b G bs e) :
    Calls Tryz.prog 112 #[.pointer (some ⟨b, 0, none⟩)] w fun en w' => en = .returned (.int .i64 (num (tk bs e 1).1 : Nat)) ∧ Rdr w' b G (tk bs e 1).2.1 (tk bs e 1).2.2 ∧ Kept [b] w w' := by
  have hb := num_lt (tk bs e 1).1
  have hb2 := tk_len bs e 1
  have hb3 : (256:Nat) ^ (tk bs e 1).1.length ≤ 256 ^ 1 := Nat.pow_le_pow_right (by omega) hb2
  have hw : IntKind.i64.wrap (num (tk bs e 1).1 : Nat) = (num (tk bs e 1).1 : Nat) := IntWalk.i64_in _ (by omega)
  clear hb hb2 hb3
  go_enter Tryz.func112, Tryz.ntmps112
  go_wp2_with fail
  refine (number_any w b G bs e 1 h (by omega)).mono ?_
  rintro en w' ⟨rfl, h2⟩
  have H2 := Lib.hid h2
  clear h2 h
  go_wp2
  go_ret
  exact ⟨rfl, H2.out⟩
set_option maxHeartbeats 400000 in
theorem RU16_any (w : World) (b : Nat) (G : List Nat) (bs : List UInt8) (e : Int) (h : Rdr w b G bs e) :
    Calls Tryz.prog 113 #[.pointer (some ⟨b, 0, none⟩)] w fun en w' => en = .returned (.int .i64 (num (tk bs e 2).1 : Nat)) ∧ Rdr w' b G (tk bs e 2).2.1 (tk bs e 2).2.2 ∧ Kept [b] w w' := by
  have hb := num_lt (tk bs e 2).1
  have hb2 := tk_len bs e 2
  have hb3 : (256:Nat) ^ (tk bs e 2).1.length ≤ 256 ^ 2 := Nat.pow_le_pow_right (by omega) hb2
  have hw : IntKind.i64.wrap (num (tk bs e 2).1 : Nat) = (num (tk bs e 2).1 : Nat) := IntWalk.i64_in _ (by omega)
  clear hb hb2 hb3
  go_enter Tryz.func113, Tryz.ntmps113
  go_wp2_with fail
  refine (number_any w b G bs e 2 h (by omega)).mono ?_
  rintro en w' ⟨rfl, h2⟩
  have H2 := Lib.hid h2
  clear h2 h
  go_wp2
  go_ret
  exact ⟨rfl, H2.out⟩
set_option maxHeartbeats 400000 in
theorem RU32_any (w : World) (b : Nat) (G : List Nat) (bs : List UInt8) (e : Int) (h : Rdr w b G bs e) :
    Calls Tryz.prog 114 #[.pointer (some ⟨b, 0, none⟩)] w fun en w' => en = .returned (.int .u32 (num (tk bs e 4).1 : Nat)) ∧ Rdr w' b G (tk bs e 4).2.1 (tk bs e 4).2.2 ∧ Kept [b] w w' := by
  have hb := num_lt (tk bs e 4).1
  have hb2 := tk_len bs e 4
  have hb3 : (256:Nat) ^ (tk bs e 4).1.length ≤ 256 ^ 4 := Nat.pow_le_pow_right (by omega) hb2
  have hw : IntKind.u32.wrap (num (tk bs e 4).1 : Nat) = (num (tk bs e 4).1 : Nat) := by rw [IntKind.wrap_u32]; omega
  clear hb hb2 hb3
  go_enter Tryz.func114, Tryz.ntmps114
  go_wp2_with fail
  refine (number_any w b G bs e 4 h (by omega)).mono ?_
  rintro en w' ⟨rfl, h2⟩
  have H2 := Lib.hid h2
  clear h2 h
  go_wp2
  go_ret
  exact ⟨rfl, H2.out⟩
set_option maxHeartbeats 400000 in
theorem RI64_any (w : World) (b : Nat) (G : List Nat) (bs : List UInt8) (e : Int) (h : Rdr w b G bs e) :
    Calls Tryz.prog 119 #[.pointer (some ⟨b, 0, none⟩)] w fun en w' => en = .returned (.int .i64 (wrap64 (num (tk bs e 8).1 : Nat))) ∧ Rdr w' b G (tk bs e 8).2.1 (tk bs e 8).2.2 ∧ Kept [b] w w' := by
  have hw : IntKind.i64.wrap (num (tk bs e 8).1 : Nat) = wrap64 (num (tk bs e 8).1 : Nat) := IntWalk.i64_left _
  go_enter Tryz.func119, Tryz.ntmps119
  go_wp2_with fail
  refine (number_any w b G bs e 8 h (by omega)).mono ?_
  rintro en w' ⟨rfl, h2⟩
  have H2 := Lib.hid h2
  clear h2 h
  go_wp2
  go_ret
  exact ⟨rfl, H2.out⟩
set_option maxHeartbeats 400000 in
theorem RRaw_any (w : World) (b : Nat) (G : List Nat) (bs : List UInt8) (e n : Int) (h : Rdr w b G bs e) (hl : bs.length ≤ 140737488355328) :
    Calls Tryz.prog 111 #[.pointer (some ⟨b, 0, none⟩), .int .i64 n] w fun en w' => ∃ v, en = .returned v ∧ Own w' 5 1 v (tk bs e n).1.length (u8s (tk bs e n).1) ∧ (∀ k ∈ rowOf v, w.heap.size ≤ k) ∧ Rdr w' b G (tk bs e n).2.1 (tk bs e n).2.2 ∧ Kept [b] w w' := by
  go_enter Tryz.func111, Tryz.ntmps111
  go_wp2_with fail
  refine (take_any w b G bs e n h).mono ?_
  rintro en w' ⟨v, rfl, h2, h3, h4⟩
  have H2 := Lib.hid h2
  have H3 := Lib.hid h3
  have H4 := Lib.hid h4
  clear h h2 h3 h4
  obtain ⟨A, m, c, rfl, h6, h7, h8, h9, -, h10⟩ := H2.out
  have hm : m ≤ 140737488355328 := by
    have : (tk bs e n).1.length ≤ bs.length := by unfold tk; split; simp; split; simp; simp; omega
    omega
  have H6 := Lib.hid h6
  have H9 := Lib.hid h9
  have H10 := Lib.hid h10
  clear h6 h9 h10
  go_wp2_with fail
  refine (Clone8_any w' A m c _ H9.out H6.out H10.out hm).mono ?_
  rintro en w2 ⟨v, rfl, h⟩
  have H := Lib.hid h
  clear h
  go_wp2
  go_ret
  refine ⟨v, rfl, H6.out ▸ H.out.1, fun k hk => ?_, H3.out.kept H.out.2.1 (by simp) (by simp), H4.out.trans H.out.2.1 (by simp)⟩
  have := H.out.2.2 k hk
  have := H4.out.size
  omega
set_option maxHeartbeats 400000 in
theorem Left_any (w : World) (b : Nat) (G : List Nat) (bs : List UInt8) (e : Int) (h : Rdr w b G bs e) :
    Calls Tryz.prog 138 #[.pointer (some ⟨b, 0, none⟩)] w fun en w' => en = .returned (.int .i64 bs.length) ∧ w = w' := by
  obtain ⟨v, h1, A, m, c, rfl, h2, h3, h4, h5, h6, h7⟩ := h.ex
  have hc0 := h1.cell 0
  simp only [List.getElem?_toArray, List.getElem?_cons_zero] at hc0
  clear h1 h3 h4 h5 h6 h7 h
  subst h2
  go_enter Tryz.func138, Tryz.ntmps138
  go_wp2
  go_ret
  exact ⟨rfl, rfl⟩
def endOf (bs : List UInt8) (e : Int) : Int := if e = 0 ∧ bs ≠ [] then 3 else e
set_option maxHeartbeats 400000 in
theorem End_any (w : World) (b : Nat) (G : List Nat) (bs : List UInt8) (e : Int) (h : Rdr w b G bs e) :
    Calls Tryz.prog 73 #[.pointer (some ⟨b, 0, none⟩)] w fun en w' => en = .returned (.int .i64 (endOf bs e)) ∧ w = w' := by
  obtain ⟨v, h1, A, m, c, rfl, h2, h3, h4, h5, h6, h7⟩ := h.ex
  have hc0 := h1.cell 0
  have hc1 := h1.cell 1
  simp only [List.getElem?_toArray, List.getElem?_cons_zero, List.getElem?_cons_succ] at hc0 hc1
  clear h1 h3 h4 h5 h6 h7 h
  subst h2
  by_cases he : e = 0
  · subst he
    cases bs with
    | nil =>
      go_enter Tryz.func73, Tryz.ntmps73
      go_wp2
      go_ret
      exact ⟨rfl, rfl⟩
    | cons x r =>
      have hx : (0 : Int) < ((x :: r).length : Int) := by simp only [List.length_cons]; omega
      generalize hn : (x :: r).length = n at *
      have he : endOf (x :: r) 0 = 3 := by simp [endOf]
      have He := Lib.hid he
      clear he hn
      go_enter Tryz.func73, Tryz.ntmps73
      go_wp2
      go_ret
      rw [He.out]; exact ⟨rfl, rfl⟩
  · have hb : (e == 0) = false := by simpa using he
    have he : endOf bs e = e := by simp [endOf, he]
    have He := Lib.hid he
    clear he
    go_enter Tryz.func73, Tryz.ntmps73
    go_wp2
    go_ret
    rw [He.out]; exact ⟨rfl, rfl⟩
set_option maxHeartbeats 400000 in
theorem NewReader_any (w : World) (A : Option Addr) (m c : Nat) (bs : List UInt8) (hr : Rd w A (u8s bs)) (hm : bs.length = m) (hA : A = none → m = 0 ∧ c = 0) (hl : m ≤ 140737488355328) :
    Calls Tryz.prog 71 #[.slice A m c] w fun e w' => ∃ b G, e = .returned (.pointer (some ⟨b, 0, none⟩)) ∧ Rdr w' b G bs 0 ∧ Kept [] w w' ∧ w.heap.size ≤ b ∧ ∀ k ∈ G, w.heap.size ≤ k ∧ k < b := by
  go_enter Tryz.func71, Tryz.ntmps71
  go_wp2_with fail
  refine (Clone8_any w A m c bs hr hm hA hl).mono ?_
  rintro e w1 ⟨v, rfl, h1, h2, h3⟩
  have H1 := Lib.hid h1
  have H2 := Lib.hid h2
  have H3 := Lib.hid h3
  clear hr hm hA h1 h2 h3
  obtain ⟨A1, n1, c1, rfl⟩ := H1.out.form'
  go_wp2
  go_ret
  refine ⟨_, rowOf (.slice A1 n1 c1), rfl, ⟨⟨_, Blk.new _ _ _, (RdB.of_own H1.out).kept ((Kept.refl [] w1).alloc _) (by simp)⟩, ?_⟩, H2.out.alloc _, H2.out.size, fun k hk => ⟨H3.out k hk, H1.out.lt k hk⟩⟩
  intro hk
  have := H1.out.lt _ hk
  omega
end
section
open Go.RowKit
def crcBit (c : Nat) : Nat := if c % 2 = 1 then (c / 2) ^^^ 2197175160 else c / 2
def crcBits : Nat → Nat → Nat
  | 0, c => c
  | k + 1, c => crcBit (crcBits k c)
def crcByte (c : Nat) (b : UInt8) : Nat := crcBits 8 (c ^^^ b.toNat)
def crcFrom (c : Nat) (bs : List UInt8) : Nat := bs.foldl crcByte c
def crc (bs : List UInt8) : Nat := 4294967295 ^^^ crcFrom 4294967295 bs
theorem crcBit_lt {c : Nat} (h : c < 4294967296) : crcBit c < 4294967296 := by
  unfold crcBit
  split
  · exact Nat.xor_lt_two_pow (n := 32) (by omega) (by omega)
  · omega
theorem crcBits_lt {c : Nat} (h : c < 4294967296) (k : Nat) : crcBits k c < 4294967296 := by
  induction k with
  | zero => exact h
  | succ k ih => exact crcBit_lt ih
theorem xor_byte_lt {c : Nat} (h : c < 4294967296) (b : UInt8) : c ^^^ b.toNat < 4294967296 :=
  Nat.xor_lt_two_pow (n := 32) (by omega) (by have := b.toNat_lt; omega)
theorem crcByte_lt {c : Nat} (h : c < 4294967296) (b : UInt8) : crcByte c b < 4294967296 := crcBits_lt (xor_byte_lt h b) 8
theorem crcFrom_lt (bs : List UInt8) : ∀ {c : Nat}, c < 4294967296 → crcFrom c bs < 4294967296 := by
  induction bs with
  | nil => intro c h; exact h
  | cons b bs ih => intro c h; exact ih (crcByte_lt h b)
theorem crcFrom_snoc (c : Nat) (bs : List UInt8) (b : UInt8) : crcFrom c (bs ++ [b]) = crcByte (crcFrom c bs) b := by simp [crcFrom]
theorem crcFrom_take (c : Nat) (bs : List UInt8) (k : Nat) (h : k < bs.length) : crcFrom c (bs.take (k + 1)) = crcByte (crcFrom c (bs.take k)) (bs[k]?.getD 0) := by
  rw [List.take_succ_eq_append_getElem h, crcFrom_snoc, List.getElem?_eq_getElem h]; rfl
theorem crc_lt (bs : List UInt8) : crc bs < 4294967296 := Nat.xor_lt_two_pow (n := 32) (by omega) (crcFrom_lt bs (by omega))
theorem bit_odd {z : Nat} (hz : z < 4294967296) (h : z % 2 = 1) : bits .xor .u32 ((z : Int) / 2) 2197175160 = (crcBit z : Nat) := by
  unfold crcBit
  rw [if_pos h, show ((z : Int) / 2) = ((z / 2 : Nat) : Int) by omega, show (2197175160 : Int) = ((2197175160 : Nat) : Int) from rfl, u32_xor_nat _ _ (by omega) (by omega)]
theorem bit_even {z : Nat} (h : ¬ z % 2 = 1) : (z : Int) / 2 = (crcBit z : Nat) := by
  unfold crcBit; rw [if_neg h]; omega
theorem crc_end (bs : List UInt8) : bits .xor .u32 IntKind.u32.max (crcFrom 4294967295 bs : Nat) = (crc bs : Nat) := by
  rw [show IntKind.u32.max = ((4294967295 : Nat) : Int) by decide, u32_xor_nat _ _ (by omega) (crcFrom_lt bs (by omega))]; rfl
set_option maxHeartbeats 800000 in
theorem Crc_any (w : World) (G : List Nat) (A : Option Addr) (m c : Nat) (bs : List UInt8) (h : RdB w G (.slice A m c) bs) :
    Calls Tryz.prog 64 #[.slice A m c] w fun e w' => e = .returned (.int .u32 (crc bs : Nat)) ∧ w = w' := by
  have hl := h.len
  have H := Lib.hid h
  have Hl := Lib.hid hl.1
  have hcm := hl.2.2.1
  have hmc := hl.2.1
  unfold maxLen at hcm
  clear h hl
  go_enter Tryz.func64, Tryz.ntmps64
  go_wp2
  go_loop [3, 9] (fun x i => ∃ k : Nat, k ≤ m ∧ i = .int .i64 k ∧ x = .int .u32 (crcFrom 4294967295 (bs.take k) : Nat)) (fun _ i => m - (intOf i).toNat)
  case atStart => exact ⟨0, by omega, rfl, rfl⟩
  case round =>
    obtain ⟨k, hk, rfl, rfl⟩ := hrel
    have hlt0 : crcFrom 4294967295 (bs.take k) < 4294967296 := crcFrom_lt _ (by omega)
    by_cases hlt : k < m
    · obtain ⟨g, o, rfl, hc⟩ := H.out.at hlt
      have Hst := Lib.hid (crcFrom_take 4294967295 bs k (by rw [Hl.out]; exact hlt))
      generalize crcFrom 4294967295 (bs.take k) = s at *
      generalize bs[k]?.getD 0 = b at *
      have hb := b.toNat_lt
      have hx : bits .xor .u32 (s : Int) (b.toNat : Int) = ((s ^^^ b.toNat : Nat) : Int) := u32_xor_nat _ _ hlt0 (by omega)
      have hxl := xor_byte_lt hlt0 b
      have hst2 : crcByte s b = crcBits 8 (s ^^^ b.toNat) := rfl
      have Hst2 := Lib.hid hst2
      clear hst2
      generalize s ^^^ b.toNat = y at *
      go_wp2
      clear hx
      go_loop [3, 17] (fun x j => ∃ i : Nat, i ≤ 8 ∧ j = .int .i64 i ∧ x = .int .u32 (crcBits i y : Nat)) (fun _ j => 8 - (intOf j).toNat)
      case atStart => exact ⟨0, by omega, rfl, rfl⟩
      case round =>
        obtain ⟨i, hi, rfl, rfl⟩ := hrel
        have hz := crcBits_lt hxl i
        by_cases hi8 : i < 8
        · have hs2 : crcBits (i + 1) y = crcBit (crcBits i y) := rfl
          have Hs2 := Lib.hid hs2
          clear hs2
          generalize crcBits i y = z at *
          have ha : bits .and .u32 (z : Int) 1 = ((z % 2 : Nat) : Int) := by
            rw [show (1 : Int) = ((1 : Nat) : Int) from rfl, u32_and_nat _ _ hz (by omega), nat_mask1]
          by_cases hodd : z % 2 = 1
          · go_wp2
            go_round
            case rel => exact ⟨i + 1, by omega, by go_num, by rw [bit_odd hz hodd, Hs2.out]⟩
            case measure => simp [intOf]; omega
          · go_wp2
            go_round
            case rel => exact ⟨i + 1, by omega, by go_num, by rw [bit_even hodd, Hs2.out]⟩
            case measure => simp [intOf]; omega
        · obtain rfl : i = 8 := by omega
          go_wp2
          go_round
          case rel => exact ⟨k + 1, by omega, by go_num, by rw [Hst.out, Hst2.out]⟩
          case measure => simp [intOf]; omega
    · have hf : bs.take k = bs := List.take_of_length_le (by rw [Hl.out]; omega)
      rw [hf]
      clear hf hlt0
      go_wp2
      go_ret
      exact ⟨by rw [← crc_end]; rfl, rfl⟩
set_option maxHeartbeats 800000 in
theorem rCrc_any (w : World) (G : List Nat) (A : Option Addr) (m c : Nat) (bs : List UInt8) (h : RdB w G (.slice A m c) bs) :
    Calls Tryz.prog 32 #[.slice A m c] w fun e w' => e = .returned (.int .u32 (crc bs : Nat)) ∧ w = w' := by
  have hl := h.len
  have H := Lib.hid h
  have Hl := Lib.hid hl.1
  have hcm := hl.2.2.1
  have hmc := hl.2.1
  unfold maxLen at hcm
  clear h hl
  go_enter Tryz.func32, Tryz.ntmps32
  go_wp2
  go_loop [3, 8] (fun x i => ∃ k : Nat, k ≤ m ∧ i = .int .i64 k ∧ x = .int .u32 (crcFrom 4294967295 (bs.take k) : Nat)) (fun _ i => m - (intOf i).toNat)
  case atStart => exact ⟨0, by omega, rfl, rfl⟩
  case round =>
    obtain ⟨k, hk, rfl, rfl⟩ := hrel
    have hlt0 : crcFrom 4294967295 (bs.take k) < 4294967296 := crcFrom_lt _ (by omega)
    by_cases hlt : k < m
    · obtain ⟨g, o, rfl, hc⟩ := H.out.at hlt
      have Hst := Lib.hid (crcFrom_take 4294967295 bs k (by rw [Hl.out]; exact hlt))
      generalize crcFrom 4294967295 (bs.take k) = s at *
      generalize bs[k]?.getD 0 = b at *
      have hb := b.toNat_lt
      have hx : bits .xor .u32 (s : Int) (b.toNat : Int) = ((s ^^^ b.toNat : Nat) : Int) := u32_xor_nat _ _ hlt0 (by omega)
      have hxl := xor_byte_lt hlt0 b
      have hst2 : crcByte s b = crcBits 8 (s ^^^ b.toNat) := rfl
      have Hst2 := Lib.hid hst2
      clear hst2
      generalize s ^^^ b.toNat = y at *
      go_wp2
      clear hx
      go_loop [3, 16] (fun x j => ∃ i : Nat, i ≤ 8 ∧ j = .int .i64 i ∧ x = .int .u32 (crcBits i y : Nat)) (fun _ j => 8 - (intOf j).toNat)
      case atStart => exact ⟨0, by omega, rfl, rfl⟩
      case round =>
        obtain ⟨i, hi, rfl, rfl⟩ := hrel
        have hz := crcBits_lt hxl i
        by_cases hi8 : i < 8
        · have hs2 : crcBits (i + 1) y = crcBit (crcBits i y) := rfl
          have Hs2 := Lib.hid hs2
          clear hs2
          generalize crcBits i y = z at *
          have ha : bits .and .u32 (z : Int) 1 = ((z % 2 : Nat) : Int) := by
            rw [show (1 : Int) = ((1 : Nat) : Int) from rfl, u32_and_nat _ _ hz (by omega), nat_mask1]
          by_cases hodd : z % 2 = 1
          · go_wp2
            go_round
            case rel => exact ⟨i + 1, by omega, by go_num, by rw [bit_odd hz hodd, Hs2.out]⟩
            case measure => simp [intOf]; omega
          · go_wp2
            go_round
            case rel => exact ⟨i + 1, by omega, by go_num, by rw [bit_even hodd, Hs2.out]⟩
            case measure => simp [intOf]; omega
        · obtain rfl : i = 8 := by omega
          go_wp2
          go_round
          case rel => exact ⟨k + 1, by omega, by go_num, by rw [Hst.out, Hst2.out]⟩
          case measure => simp [intOf]; omega
    · have hf : bs.take k = bs := List.take_of_length_le (by rw [Hl.out]; omega)
      rw [hf]
      clear hf hlt0
      go_wp2
      go_ret
      exact ⟨by rw [← crc_end]; rfl, rfl⟩
end
section
open Go.RowKit
theorem New.made (w : World) (xs : Array Value) (n : Nat) (h : xs.size = n) (hn : n ≤ maxLen) : New w 5 1 (.slice (some ⟨w.heap.size, 0, none⟩) n n) n xs.toList (w.alloc (.cells xs 5)) := by
  refine ⟨?_, (Kept.refl _ _).alloc _, fun k hk => by simp [rowOf, Value.ownBlock] at hk; omega⟩
  exact ⟨by simp [h], .inr ⟨_, _, xs, rfl, Nat.zero_le _, heap_alloc_new w _, Nat.le_refl _, hn, by simp [h], by simp [← h, List.take_of_length_le]⟩⟩
theorem be1 (n : Int) : u8s (beK (nat64 n) 1 1) = [.int .u8 (n % 256)] := by
  have := nat64_cast n
  simp [u8s, beK, List.range_succ, u8v]
  omega
theorem be2 (n : Int) : u8s (beK (nat64 n) 2 2) = [.int .u8 (n / 256 % 256), .int .u8 (n % 256)] := by
  have := nat64_cast n
  simp [u8s, beK, List.range_succ, u8v]
  omega
theorem be4 (n : Nat) (hn : n < 4294967296) : u8s (beK n 4 4) = [.int .u8 ((n : Int) / 16777216), .int .u8 ((n : Int) / 65536 % 256), .int .u8 ((n : Int) / 256 % 256), .int .u8 ((n : Int) % 256)] := by
  simp [u8s, beK, List.range_succ, u8v]
  omega
theorem be8 (n : Nat) : beK n 8 8 = beK (n / 4294967296) 4 4 ++ beK (n % 4294967296) 4 4 := by
  simp [beK, List.range_succ]
  refine ⟨?_, ?_, ?_, ?_, ?_, ?_, ?_⟩ <;> (apply UInt8.toNat_inj.1; (try simp); (try omega))
theorem New.cast {w w' : World} {e : TypeId} {s n n' : Nat} {v : Value} {xs xs' : List Value} (h : New w e s v n xs w') (hn : n = n') (hx : xs = xs') : New w e s v n' xs' w' := by subst hn hx; exact h
set_option maxHeartbeats 400000 in
theorem rU16_any (w : World) (n : Int) : Calls Tryz.prog 29 #[.int .i64 n] w fun e w' => ∃ v, e = .returned v ∧ New w 5 1 v 2 (u8s (beK (nat64 n) 2 2)) w' := by
  go_enter Tryz.func29, Tryz.ntmps29
  go_wp2
  go_ret
  exact ⟨_, rfl, (New.made w _ 2 rfl (by unfold maxLen; omega)).cast rfl (be2 n).symm⟩
set_option maxHeartbeats 400000 in
theorem rU32_any (w : World) (x : Int) (n : Nat) (hx : x = n) (hn : n < 4294967296) : Calls Tryz.prog 30 #[.int .u32 x] w fun e w' => ∃ v, e = .returned v ∧ New w 5 1 v 4 (u8s (beK n 4 4)) w' := by
  subst hx
  go_enter Tryz.func30, Tryz.ntmps30
  go_wp2
  go_ret
  exact ⟨_, rfl, (New.made w _ 4 rfl (by unfold maxLen; omega)).cast rfl (be4 n hn).symm⟩
set_option maxHeartbeats 400000 in
theorem rI64_any (w : World) (n : Int) : Calls Tryz.prog 31 #[.int .i64 n] w fun e w' => ∃ v, e = .returned v ∧ New w 5 1 v 8 (u8s (beK (nat64 n) 8 8)) w' := by
  have hw := wrap_u64 n
  have hu : nat64 n < 18446744073709551616 := by unfold nat64; omega
  go_enter Tryz.func31, Tryz.ntmps31
  go_wp2_with fail
  refine (rU32_any w _ (nat64 n / 4294967296) (by omega) (by omega)).mono ?_
  rintro e w1 ⟨v1, rfl, h1⟩
  have H1 := Lib.hid h1
  clear h1
  go_wp2_with fail
  refine (rU32_any w1 _ (nat64 n % 4294967296) (by omega) (by omega)).mono ?_
  rintro e w2 ⟨v2, rfl, h2⟩
  have H2 := Lib.hid h2
  clear h2
  obtain ⟨A2, c2, rfl, _, _, hr2, hro2, _⟩ := H2.out.1.slice
  have Hr2 := Lib.hid hr2
  clear hr2 hro2
  go_wp2_with (at_builtin
               refine wpList_app _ rfl (.tmp 7) (.tmp 11) 31 rfl elem_u8 (by rfl) (H1.out.1.kept H2.out.2.1 (by simp)) (by rfl) Hr2.out (by simp [u8s, beK_len]) (u8s_one _) (by unfold maxLen; omega) (by omega) ?_
               intro v3 w3 ho3 hk3 hr3)
  go_ret
  refine ⟨v3, rfl, (by rw [be8, u8s_app]; exact ho3), (H1.out.2.1.trans H2.out.2.1 (by simp)).trans hk3 (fun i hi => .inr (H1.out.2.2 i hi)), fun k hk => ?_⟩
  rcases hr3 k hk with h | h
  · exact H1.out.2.2 k h
  · have := H1.out.2.1.size; have := H2.out.2.1.size; omega
end
section
open Go.RowKit
def strOf (bs : List UInt8) : ByteArray := ⟨bs.toArray⟩
theorem strOf_toList (l : List UInt8) : (strOf l).toList = l := by rw [ByteArray.toList_eq]; simp [strOf]
set_option maxRecDepth 100000 in
theorem run_str {w : World} {G : List Nat} {A : Option Addr} {m c : Nat} {bs : List UInt8} (h : RdB w G (.slice A m c) bs) :
    (convert 31 9 (.slice A m c)).run Tryz.prog w = .ok (.string (strOf bs)) w := by
  obtain ⟨A', m', c', e, h2, h3, h4, h5, h6, h7⟩ := h
  injection e with e1 e2 e3
  subst e1 e2 e3
  by_cases hb : bs = []
  · subst hb
    obtain rfl : m = 0 := by simpa using h2.symm
    cases A with
    | none => exact run_convert_bytes_nil w _ _ Tryz.underlying31 Tryz.underlying5 0 c _ Tryz.underlying9
    | some a =>
      rw [run_convert_bytes_string w _ _ _ _ 0 c Tryz.underlying31 Tryz.underlying5 Tryz.underlying9]
      have := run_bytesToString (P := Tryz.prog) w a 0 c [] (by simp [loadCells, loadCellsFrom])
      simpa [strOf] using this.trans (by rfl)
  · obtain ⟨g, o, rfl, hc⟩ := h5 (by intro h0; exact hb (u8s_nil h0))
    have := run_convert_bytes_arg w 31 5 Tryz.underlying31 Tryz.underlying5 g o m c (bs.map fun b => (b.toNat : Int)) (by simp [h2]) (fun i hi => by
      have hib : i < bs.length := by omega
      rw [hc i (u8v bs[i]) (by simp [u8s, hib])]
      simp [List.getD, hib]) _ Tryz.underlying9
    rw [this]
    congr 2
    unfold strOf strOfNums
    congr 1
    simp only [List.map_map]
    congr 1
    have : ((fun n : Int => UInt8.ofNat n.toNat) ∘ fun b : UInt8 => (b.toNat : Int)) = id := by funext b; simp
    rw [this, List.map_id]
end
section
open Go.RowKit
set_option maxRecDepth 100000
structure FrameD where
  kind : Int
  ver : Int
  body : List UInt8
instance : Inhabited FrameD := ⟨⟨0, 0, []⟩⟩
def head8 (f : FrameD) : List UInt8 := [103, 111, 105, 116] ++ beK (nat64 f.kind) 1 1 ++ beK (nat64 f.ver) 1 1 ++ beK (nat64 f.body.length) 2 2
def putB (f : FrameD) : List UInt8 := head8 f ++ beK (crc (head8 f)) 4 4 ++ beK (crc f.body) 4 4 ++ f.body
def putE (f : FrameD) : Int := if f.kind < 0 ∨ 255 < f.kind ∨ f.ver < 0 ∨ 255 < f.ver then 1 else if 4096 < f.body.length then 4 else 0
def putF (f : FrameD) : List UInt8 := if putE f = 0 then putB f else []
theorem head8_len (f : FrameD) : (head8 f).length = 8 := by simp [head8, beK_len]
theorem putB_len (f : FrameD) : (putB f).length = 16 + f.body.length := by simp [putB, head8_len, beK_len]; omega
theorem RdB.litf (w : World) (fr : Nat × Nat) (cs : List UInt8) (n : Nat) (h : cs.length = n) (hn : n ≤ maxLen) : RdB (w.alloc (.cells (u8s cs).toArray 5 fr)) [w.heap.size] (.slice (some ⟨w.heap.size, 0, none⟩) n n) cs :=
  ⟨_, n, n, rfl, h, Nat.le_refl _, hn, fun _ => ⟨_, _, rfl, fun j u hu => by rw [Nat.zero_add, cell_of_row _ _ j _ _ fr (heap_alloc_new w _)]; simpa using hu⟩, by simp [addrOf], by simp⟩
theorem RdB.lit (w : World) (cs : List UInt8) (n : Nat) (h : cs.length = n) (hn : n ≤ maxLen) : RdB (w.alloc (.cells (u8s cs).toArray 5)) [w.heap.size] (.slice (some ⟨w.heap.size, 0, none⟩) n n) cs :=
  ⟨_, n, n, rfl, h, Nat.le_refl _, hn, by simpa using Rd.new w (u8s cs).toArray 5, by simp [addrOf], by simp⟩
theorem WV.start1 (w : World) (o : Obj) : WV w (w.heap.size + 1) [] ((w.alloc o).alloc (.cells #[.slice none 0 0] 111)) := by
  have h := WV.start ((Kept.refl [] w).alloc o)
  rwa [World.size_alloc] at h
set_option maxHeartbeats 1600000 in
theorem Put_any (w : World) (G : List Nat) (A : Option Addr) (m c : Nat) (f : FrameD) (h : RdB w G (.slice A m c) f.body) :
    Calls Tryz.prog 23 #[.agg #[.int .i64 f.kind, .int .i64 f.ver, .slice A m c]] w fun e w' => ∃ v, e = .returned (.tuple #[v, .int .i64 (putE f)]) ∧ New w 5 1 v (putF f).length (u8s (putF f)) w' := by
  have hm := h.len
  have H := Lib.hid h
  have Hm := Lib.hid hm.1
  have hcm := hm.2.2.1
  have hmc := hm.2.1
  unfold maxLen at hcm
  clear h hm
  by_cases hbad : f.kind < 0 ∨ 255 < f.kind ∨ f.ver < 0 ∨ 255 < f.ver
  · have he : putE f = 1 := by simp [putE, hbad]
    have hf : putF f = [] := by simp [putF, he]
    rw [he, hf]
    clear he hf
    by_cases k0 : f.kind < 0
    · go_enter Tryz.func23, Tryz.ntmps23
      go_wp2
      go_ret2
      exact ⟨_, rfl, Own.nil _ _ _, (Kept.refl _ _).alloc _, by simp [rowOf, Value.ownBlock]⟩
    · by_cases k1 : 255 < f.kind
      · go_enter Tryz.func23, Tryz.ntmps23
        go_wp2
        go_ret2
        exact ⟨_, rfl, Own.nil _ _ _, (Kept.refl _ _).alloc _, by simp [rowOf, Value.ownBlock]⟩
      · by_cases k2 : f.ver < 0
        · go_enter Tryz.func23, Tryz.ntmps23
          go_wp2
          go_ret2
          exact ⟨_, rfl, Own.nil _ _ _, (Kept.refl _ _).alloc _, by simp [rowOf, Value.ownBlock]⟩
        · have k3 : 255 < f.ver := by omega
          clear hbad
          go_enter Tryz.func23, Tryz.ntmps23
          go_wp2
          go_ret2
          exact ⟨_, rfl, Own.nil _ _ _, (Kept.refl _ _).alloc _, by simp [rowOf, Value.ownBlock]⟩
  · have k0 : 0 ≤ f.kind := by omega
    have k1 : f.kind ≤ 255 := by omega
    have k2 : 0 ≤ f.ver := by omega
    have k3 : f.ver ≤ 255 := by omega
    by_cases hl : 4096 < m
    · have he : putE f = 4 := by rw [← Hm.out] at hl; simp [putE, hbad, hl]
      have hf : putF f = [] := by simp [putF, he]
      rw [he, hf]
      clear he hf hbad
      go_enter Tryz.func23, Tryz.ntmps23
      go_wp2
      go_ret2
      exact ⟨_, rfl, Own.nil _ _ _, (Kept.refl _ _).alloc _, by simp [rowOf, Value.ownBlock]⟩
    · have he : putE f = 0 := by rw [← Hm.out] at hl; simp [putE, hbad, hl]
      have hf : putF f = putB f := by simp [putF, he]
      rw [he, hf]
      clear he hf hbad
      go_enter Tryz.func23, Tryz.ntmps23
      have hcv := Lib.run_convert_bytes_const (P := Tryz.prog) ((w.alloc (.cells #[.int .i64 f.kind, .int .i64 f.ver, .slice A m c] 45)).alloc (.cells #[.slice none 0 0] 111)) 31 5 #[.int .u8 103, .int .u8 111, .int .u8 105, .int .u8 116] 4 4 Tryz.underlying31 Tryz.underlying5
      rw [World.size_alloc, World.size_alloc] at hcv
      go_wp2_with fail
      have hv0 := WV.start1 w (.cells #[.int .i64 f.kind, .int .i64 f.ver, .slice A m c] 45)
      have hb0 := (Blk.new w 45 #[.int .i64 f.kind, .int .i64 f.ver, .slice A m c]).alloc (.cells #[.slice none 0 0] 111)
      have hl0 := RdB.litf ((w.alloc (.cells #[.int .i64 f.kind, .int .i64 f.ver, .slice A m c] 45)).alloc (.cells #[.slice none 0 0] 111)) (4, 5) [103, 111, 105, 116] 4 rfl (by unfold maxLen; omega)
      rw [World.size_alloc, World.size_alloc] at hl0
      refine (VRaw (hv0.go ((Kept.refl _ _).alloc _)) [103, 111, 105, 116] hl0 (by simp)).mono ?_
      rintro e w1 ⟨rfl, hv1, ha1⟩
      have hb1 := ha1 _ _ _ (by decide) (by decide) (hb0.alloc _)
      have hc0 := hb1.cell 0
      have hc1 := hb1.cell 1
      have hc2 := hb1.cell 2
      simp only [List.getElem?_toArray, List.getElem?_cons_zero, List.getElem?_cons_succ] at hc0 hc1 hc2
      have Hv1 := Lib.hid hv1
      have Hb1 := Lib.hid hb1
      clear hv0 hb0 hl0 hv1 ha1 hb1
      go_wp2_with fail
      refine (VU8 Hv1.out _ (by simp)).mono ?_
      rintro e w2 ⟨rfl, hv2, ha2⟩
      have hb2 := ha2 _ _ _ (by decide) (by decide) Hb1.out
      have hc3 := hb2.cell 1
      simp only [List.getElem?_toArray, List.getElem?_cons_zero, List.getElem?_cons_succ] at hc3
      have Hv2 := Lib.hid hv2
      have Hb2 := Lib.hid hb2
      clear hv2 ha2 hb2
      go_wp2_with fail
      refine (VU8 Hv2.out _ (by simp [beK_len])).mono ?_
      rintro e w3 ⟨rfl, hv3, ha3⟩
      have hb3 := ha3 _ _ _ (by decide) (by decide) Hb2.out
      have hc4 := hb3.cell 2
      simp only [List.getElem?_toArray, List.getElem?_cons_zero, List.getElem?_cons_succ] at hc4
      have Hv3 := Lib.hid hv3
      have Hb3 := Lib.hid hb3
      clear hv3 ha3 hb3
      go_wp2_with fail
      refine (VU16 Hv3.out _ (by simp [beK_len])).mono ?_
      rintro e w4 ⟨rfl, hv4, ha4⟩
      have hh : [103, 111, 105, 116] ++ beK (nat64 f.kind) 1 1 ++ beK (nat64 f.ver) 1 1 ++ beK (nat64 m) 2 2 = head8 f := by rw [← Hm.out]; rfl
      have hv4' : WV w (w.heap.size + 1) (head8 f) w4 := by rw [← hh]; exact hv4
      have hb4 := ha4 _ _ _ (by decide) (by decide) Hb3.out
      have Hv4 := Lib.hid hv4'
      have Hb4 := Lib.hid hb4
      clear hv4 ha4 hb4 hv4' hh
      have Hpb : Hid (putB f = head8 f ++ beK (crc (head8 f)) 4 4 ++ beK (crc f.body) 4 4 ++ f.body) := rfl
      have hh8 := head8_len f
      generalize head8 f = h8 at *
      have Hh8 := Lib.hid hh8
      clear hh8
      go_wp2_with fail
      refine (VBytes Hv4.out (by rw [Hh8.out]; omega)).mono ?_
      rintro e w5 ⟨A5, n5, c5, rfl, -, hn5, hv5, hk5⟩
      have Hr5 := Lib.hid (RdB.of_own hn5.1)
      have Hv5 := Lib.hid hv5
      have Hb5 := Lib.hid (Hb4.out.kept hk5 (by simp))
      clear hn5 hv5 hk5
      go_wp2_with fail
      refine (Crc_any _ _ _ _ _ _ Hr5.out).mono ?_
      rintro e w6 ⟨rfl, rfl⟩
      go_wp2_with fail
      refine (VU32 Hv5.out _ (crc h8) rfl (crc_lt _) (by rw [Hh8.out]; omega)).mono ?_
      rintro e w6 ⟨rfl, hv6, ha6⟩
      have hb6 := ha6 _ _ _ (by decide) (by decide) Hb5.out
      have hc6 := hb6.cell 2
      simp only [List.getElem?_toArray, List.getElem?_cons_zero, List.getElem?_cons_succ] at hc6
      have Hb6 := Lib.hid hb6
      have Hv6 := Lib.hid hv6
      clear hv6 ha6 hb6
      go_wp2_with fail
      refine (Crc_any _ _ _ _ _ _ (H.out.kept Hv6.out.kept (by simp))).mono ?_
      rintro e w7 ⟨rfl, rfl⟩
      go_wp2_with fail
      refine (VU32 Hv6.out _ (crc f.body) rfl (crc_lt _) (by simp [beK_len, Hh8.out])).mono ?_
      rintro e w7 ⟨rfl, hv7, ha7⟩
      have hb7 := ha7 _ _ _ (by decide) (by decide) Hb6.out
      have hc7 := hb7.cell 2
      simp only [List.getElem?_toArray, List.getElem?_cons_zero, List.getElem?_cons_succ] at hc7
      have Hv7 := Lib.hid hv7
      clear hv7 ha7 hb7
      go_wp2_with fail
      refine (VRaw Hv7.out f.body (H.out.kept Hv7.out.kept (by simp)) (by simp [beK_len, Hh8.out]; omega)).mono ?_
      rintro e w8 ⟨rfl, hv8, ha8⟩
      have Hv8 := Lib.hid hv8
      clear hv8 ha8
      go_wp2_with fail
      refine (VBytes Hv8.out (by simp [beK_len, Hh8.out]; have := Hm.out; omega)).mono ?_
      rintro e w9 ⟨A9, n9, c9, rfl, hq9, hn9, _, _⟩
      have Hn9 := Lib.hid (hn9.cast hq9.symm rfl)
      clear hn9 hq9
      go_wp2
      go_ret2
      rw [Hpb.out]
      exact ⟨_, rfl, Hn9.out⟩
end
end Go.Proofs.YtkacghjglicjiaaGreat
