
/-
  Contracts of octet.Reader's functions, on.
-/
import Derived.Test.YtflbeipnnmeiaaaDoorOctR
namespace Go.Proofs.YtflbeipnnmeiaaaDoor
open Go.RowKit
set_option linter.unusedVariables false
set_option maxRecDepth 100000

theorem RdB.at {w : World} {G : List Nat} {A : Option Addr} {m c : Nat} {bs : List UInt8} (h : RdB w G (.slice A m c) bs) {k : Nat} (hk : k < m) :
    ∃ g o, A = some ⟨g, o, none⟩ ∧ w.cell? ⟨g, o + k, none⟩ = some (.int .u8 ((bs[k]?.getD 0).toNat : Int)) := by
  obtain ⟨A', m', c', e, h2, h3, h4, h5, h6, h7⟩ := h
  injection e with e1 e2 e3
  subst e1 e2 e3
  obtain ⟨g, o, rfl, hc⟩ := h5 (by intro h0; rw [u8s_nil h0] at h2; simp at h2; omega)
  refine ⟨g, o, rfl, hc k _ ?_⟩
  simp [u8s, List.getElem?_eq_getElem (show k < bs.length by omega)]

/-- bytes as a number, the highest first -/
def num (bs : List UInt8) : Nat := bs.foldl (fun n b => n * 256 + b.toNat) 0
theorem num_snoc (bs : List UInt8) (b : UInt8) : num (bs ++ [b]) = num bs * 256 + b.toNat := by simp [num]
theorem num_lt (bs : List UInt8) : num bs < 256 ^ bs.length := by
  have h : ∀ l : List UInt8, num l.reverse < 256 ^ l.length := by
    intro l
    induction l with
    | nil => simp [num]
    | cons b l ih =>
      rw [List.reverse_cons, num_snoc, List.length_cons, Nat.pow_succ]
      have := b.toNat_lt
      have h : (num l.reverse + 1) * 256 ≤ 256 ^ l.length * 256 := Nat.mul_le_mul_right _ ih
      omega
  simpa using h bs.reverse
theorem num_take (cs : List UInt8) (k : Nat) (h : k < cs.length) : num (cs.take (k + 1)) = num (cs.take k) * 256 + (cs[k]?.getD 0).toNat := by
  rw [List.take_succ_eq_append_getElem h, num_snoc, List.getElem?_eq_getElem h]; rfl
theorem or_step (y : Nat) (c : UInt8) (hy : y * 256 < 18446744073709551616) : bits .or .u64 (IntKind.u64.wrap ((y : Int) * 256)) (IntKind.u64.wrap (c.toNat : Int)) = ((y * 256 + c.toNat : Nat) : Int) := by
  have hc := c.toNat_lt
  rw [show (IntKind.u64.wrap ((y : Int) * 256)) = ((y * 256 : Nat) : Int) by rw [IntKind.wrap_u64]; omega, show IntKind.u64.wrap (c.toNat : Int) = (c.toNat : Int) by rw [IntKind.wrap_u64]; omega, u64_or_nat _ _ hy (by omega), nat_join 8 _ _ (by omega) (by simpa using hc)]
theorem pow256_le {k : Nat} (h : k ≤ 7) : 256 ^ k * 256 ≤ 18446744073709551616 := by
  rw [← Nat.pow_succ]; exact Nat.le_trans (Nat.pow_le_pow_right (by omega) (show k + 1 ≤ 8 by omega)) (by decide)
theorem tk_len (bs : List UInt8) (e : Int) (n : Nat) : (tk bs e n).1.length ≤ n := by
  unfold tk; split; simp; split; simp; simp; omega

set_option maxHeartbeats 400000 in
theorem number_any (w : World) (b : Nat) (G : List Nat) (bs : List UInt8) (e : Int) (n : Nat) (h : Rdr w b G bs e) (hn : n ≤ 8) :
    Calls Tryd.prog 51 #[.pointer (some ⟨b, 0, none⟩), .int .i64 n] w fun en w' => en = .returned (.int .u64 (num (tk bs e n).1 : Nat)) ∧ Rdr w' b G (tk bs e n).2.1 (tk bs e n).2.2 ∧ Kept [b] w w' := by
  go_enter Tryd.func51, Tryd.ntmps51
  go_wp2_with fail
  refine (take_any w b G bs e n h).mono ?_
  rintro en w' ⟨v, rfl, h2, h3, h4⟩
  have H2 := Lib.hid h2
  have H3 := Lib.hid h3
  have H4 := Lib.hid h4
  clear h h2 h3 h4
  obtain ⟨A, m, c, rfl, h6, h7, h8, -⟩ := H2.out
  have hm : m ≤ 8 := by have := tk_len bs e n; omega
  generalize hcs : (tk bs e n).1 = cs at *
  have H6 := Lib.hid h6
  have Hcs := Lib.hid hcs
  clear hcs h6
  unfold maxLen at h8
  go_wp2
  go_loop [5, 12] (fun x i => ∃ k : Nat, k ≤ m ∧ i = .int .i64 k ∧ x = .int .u64 (num (cs.take k) : Nat)) (fun _ i => m - (intOf i).toNat)
  case atStart => exact ⟨0, by omega, rfl, rfl⟩
  case round =>
    obtain ⟨k, hk, rfl, rfl⟩ := hrel
    by_cases hlt : k < m
    · obtain ⟨g, o, rfl, hc⟩ := H2.out.at hlt
      have hb := num_lt (cs.take k)
      rw [List.length_take, Nat.min_eq_left (by rw [H6.out]; omega)] at hb
      have hb2 := pow256_le (show k ≤ 7 by omega)
      have hst := Lib.hid (or_step (num (cs.take k)) (cs[k]?.getD 0) (by omega))
      clear hb hb2
      go_wp2
      go_round
      case rel => exact ⟨k + 1, by omega, by go_num, by rw [hst.out, num_take cs k (by rw [H6.out]; omega)]⟩
      case measure => simp [intOf]; omega
    · go_wp2
      go_ret
      have : cs.take k = cs := List.take_of_length_le (by rw [H6.out]; omega)
      exact ⟨by rw [this, Hcs.out]; rfl, H3.out, H4.out⟩

set_option maxHeartbeats 400000 in
theorem number_nil (w : World) (n : Int) : Calls Tryd.prog 51 #[.pointer none, .int .i64 n] w fun e w' => e = .returned (.int .u64 0) ∧ w = w' := by
  go_enter Tryd.func51, Tryd.ntmps51
  go_wp2_with (go_at_call 52; refine (take_nil _ _).mono ?_; rintro e w' ⟨rfl, rfl⟩)
  refine wp_loop_rounds 1 ?_
  rw [rounds_succ]
  go_wp2
  go_ret
  exact ⟨rfl, rfl⟩

set_option maxHeartbeats 400000 in
theorem RU8_nil (w : World) : Calls Tryd.prog 39 #[.pointer none] w fun e w' => e = .returned (.int .i64 0) ∧ w = w' := by
  go_enter Tryd.func39, Tryd.ntmps39
  go_wp2_with (go_at_call 51; refine (number_nil _ _).mono ?_; rintro e w' ⟨rfl, rfl⟩)
  go_ret
  exact ⟨rfl, rfl⟩
set_option maxHeartbeats 400000 in
theorem RU8_any (w : World) (b : Nat) (G : List Nat) (bs : List UInt8) (e : Int) (h : Rdr w b G bs e) :
    Calls Tryd.prog 39 #[.pointer (some ⟨b, 0, none⟩)] w fun en w' => en = .returned (.int .i64 (num (tk bs e 1).1 : Nat)) ∧ Rdr w' b G (tk bs e 1).2.1 (tk bs e 1).2.2 ∧ Kept [b] w w' := by
  have hb := num_lt (tk bs e 1).1
  have hb2 := tk_len bs e 1
  have hb3 : (256:Nat) ^ (tk bs e 1).1.length ≤ 256 ^ 1 := Nat.pow_le_pow_right (by omega) hb2
  have hw : IntKind.i64.wrap (num (tk bs e 1).1 : Nat) = (num (tk bs e 1).1 : Nat) := IntWalk.i64_in _ (by omega)
  clear hb hb2 hb3
  go_enter Tryd.func39, Tryd.ntmps39
  go_wp2_with fail
  refine (number_any w b G bs e 1 h (by omega)).mono ?_
  rintro en w' ⟨rfl, h2⟩
  have H2 := Lib.hid h2
  clear h2 h
  go_wp2
  go_ret
  exact ⟨rfl, H2.out⟩

set_option maxHeartbeats 400000 in
theorem RU16_nil (w : World) : Calls Tryd.prog 36 #[.pointer none] w fun e w' => e = .returned (.int .i64 0) ∧ w = w' := by
  go_enter Tryd.func36, Tryd.ntmps36
  go_wp2_with (go_at_call 51; refine (number_nil _ _).mono ?_; rintro e w' ⟨rfl, rfl⟩)
  go_ret
  exact ⟨rfl, rfl⟩
set_option maxHeartbeats 400000 in
theorem RU16_any (w : World) (b : Nat) (G : List Nat) (bs : List UInt8) (e : Int) (h : Rdr w b G bs e) :
    Calls Tryd.prog 36 #[.pointer (some ⟨b, 0, none⟩)] w fun en w' => en = .returned (.int .i64 (num (tk bs e 2).1 : Nat)) ∧ Rdr w' b G (tk bs e 2).2.1 (tk bs e 2).2.2 ∧ Kept [b] w w' := by
  have hb := num_lt (tk bs e 2).1
  have hb2 := tk_len bs e 2
  have hb3 : (256:Nat) ^ (tk bs e 2).1.length ≤ 256 ^ 2 := Nat.pow_le_pow_right (by omega) hb2
  have hw : IntKind.i64.wrap (num (tk bs e 2).1 : Nat) = (num (tk bs e 2).1 : Nat) := IntWalk.i64_in _ (by omega)
  clear hb hb2 hb3
  go_enter Tryd.func36, Tryd.ntmps36
  go_wp2_with fail
  refine (number_any w b G bs e 2 h (by omega)).mono ?_
  rintro en w' ⟨rfl, h2⟩
  have H2 := Lib.hid h2
  clear h2 h
  go_wp2
  go_ret
  exact ⟨rfl, H2.out⟩

set_option maxHeartbeats 400000 in
theorem RU32_nil (w : World) : Calls Tryd.prog 35 #[.pointer none] w fun e w' => e = .returned (.int .u32 0) ∧ w = w' := by
  go_enter Tryd.func35, Tryd.ntmps35
  go_wp2_with (go_at_call 51; refine (number_nil _ _).mono ?_; rintro e w' ⟨rfl, rfl⟩)
  go_ret
  exact ⟨rfl, rfl⟩
set_option maxHeartbeats 400000 in
theorem RU32_any (w : World) (b : Nat) (G : List Nat) (bs : List UInt8) (e : Int) (h : Rdr w b G bs e) :
    Calls Tryd.prog 35 #[.pointer (some ⟨b, 0, none⟩)] w fun en w' => en = .returned (.int .u32 (num (tk bs e 4).1 : Nat)) ∧ Rdr w' b G (tk bs e 4).2.1 (tk bs e 4).2.2 ∧ Kept [b] w w' := by
  have hb := num_lt (tk bs e 4).1
  have hb2 := tk_len bs e 4
  have hb3 : (256:Nat) ^ (tk bs e 4).1.length ≤ 256 ^ 4 := Nat.pow_le_pow_right (by omega) hb2
  have hw : IntKind.u32.wrap (num (tk bs e 4).1 : Nat) = (num (tk bs e 4).1 : Nat) := by rw [IntKind.wrap_u32]; omega
  clear hb hb2 hb3
  go_enter Tryd.func35, Tryd.ntmps35
  go_wp2_with fail
  refine (number_any w b G bs e 4 h (by omega)).mono ?_
  rintro en w' ⟨rfl, h2⟩
  have H2 := Lib.hid h2
  clear h2 h
  go_wp2
  go_ret
  exact ⟨rfl, H2.out⟩

set_option maxHeartbeats 400000 in
theorem RRaw_nil (w : World) (n : Int) : Calls Tryd.prog 38 #[.pointer none, .int .i64 n] w fun e w' => ∃ v, e = .returned v ∧ New w 5 1 v 0 [] w' := by
  go_enter Tryd.func38, Tryd.ntmps38
  go_wp2_with (first
    | (go_at_call 52; refine (take_nil _ _).mono ?_; rintro e w' ⟨rfl, rfl⟩)
    | (go_at_call 34; refine (Clone8_any _ none 0 0 [] (Rd.nil _ _) rfl (by simp) (by omega)).mono ?_; rintro e w' ⟨v, rfl, h⟩; have H := Lib.hid h; clear h))
  go_ret
  exact ⟨v, rfl, H.out⟩

set_option maxHeartbeats 400000 in
theorem RRaw_any (w : World) (b : Nat) (G : List Nat) (bs : List UInt8) (e n : Int) (h : Rdr w b G bs e) (hl : bs.length ≤ 140737488355328) :
    Calls Tryd.prog 38 #[.pointer (some ⟨b, 0, none⟩), .int .i64 n] w fun en w' => ∃ v, en = .returned v ∧ Own w' 5 1 v (tk bs e n).1.length (u8s (tk bs e n).1) ∧ (∀ k ∈ rowOf v, w.heap.size ≤ k) ∧ Rdr w' b G (tk bs e n).2.1 (tk bs e n).2.2 ∧ Kept [b] w w' := by
  go_enter Tryd.func38, Tryd.ntmps38
  go_wp2_with fail
  refine (take_any w b G bs e n h).mono ?_
  rintro en w' ⟨v, rfl, h2, h3, h4⟩
  have H2 := Lib.hid h2
  have H3 := Lib.hid h3
  have H4 := Lib.hid h4
  clear h h2 h3 h4
  obtain ⟨A, m, c, rfl, h6, h7, h8, h9, -, h10⟩ := H2.out
  have hm : m ≤ 140737488355328 := by
    have : (tk bs e n).1.length ≤ bs.length := by unfold tk; split; simp; split; simp; simp; omega
    omega
  have H6 := Lib.hid h6
  have H9 := Lib.hid h9
  have H10 := Lib.hid h10
  clear h6 h9 h10
  go_wp2_with fail
  refine (Clone8_any w' A m c _ H9.out H6.out H10.out hm).mono ?_
  rintro en w2 ⟨v, rfl, h⟩
  have H := Lib.hid h
  clear h
  go_wp2
  go_ret
  refine ⟨v, rfl, H6.out ▸ H.out.1, fun k hk => ?_, H3.out.kept H.out.2.1 (by simp) (by simp), H4.out.trans H.out.2.1 (by simp)⟩
  have := H.out.2.2 k hk
  have := H4.out.size
  omega

set_option maxHeartbeats 400000 in
theorem Left_nil (w : World) : Calls Tryd.prog 37 #[.pointer none] w fun e w' => e = .returned (.int .i64 0) ∧ w = w' := by
  go_enter Tryd.func37, Tryd.ntmps37
  go_wp2
  go_ret
  exact ⟨rfl, rfl⟩
set_option maxHeartbeats 400000 in
theorem Left_any (w : World) (b : Nat) (G : List Nat) (bs : List UInt8) (e : Int) (h : Rdr w b G bs e) :
    Calls Tryd.prog 37 #[.pointer (some ⟨b, 0, none⟩)] w fun en w' => en = .returned (.int .i64 bs.length) ∧ w = w' := by
  obtain ⟨v, h1, A, m, c, rfl, h2, h3, h4, h5, h6, h7⟩ := h.ex
  have hc0 := h1.cell 0
  simp only [List.getElem?_toArray, List.getElem?_cons_zero] at hc0
  clear h1 h3 h4 h5 h6 h7 h
  subst h2
  go_enter Tryd.func37, Tryd.ntmps37
  go_wp2
  go_ret
  exact ⟨rfl, rfl⟩

/-- what End says -/
def endOf (bs : List UInt8) (e : Int) : Int := if e = 0 ∧ bs ≠ [] then 3 else e
set_option maxHeartbeats 400000 in
theorem End_nil (w : World) : Calls Tryd.prog 25 #[.pointer none] w fun e w' => e = .returned (.int .i64 1) ∧ w = w' := by
  go_enter Tryd.func25, Tryd.ntmps25
  go_wp2
  go_ret
  exact ⟨rfl, rfl⟩
set_option maxHeartbeats 400000 in
theorem End_any (w : World) (b : Nat) (G : List Nat) (bs : List UInt8) (e : Int) (h : Rdr w b G bs e) :
    Calls Tryd.prog 25 #[.pointer (some ⟨b, 0, none⟩)] w fun en w' => en = .returned (.int .i64 (endOf bs e)) ∧ w = w' := by
  obtain ⟨v, h1, A, m, c, rfl, h2, h3, h4, h5, h6, h7⟩ := h.ex
  have hc0 := h1.cell 0
  have hc1 := h1.cell 1
  simp only [List.getElem?_toArray, List.getElem?_cons_zero, List.getElem?_cons_succ] at hc0 hc1
  clear h1 h3 h4 h5 h6 h7 h
  subst h2
  by_cases he : e = 0
  · subst he
    cases bs with
    | nil =>
      go_enter Tryd.func25, Tryd.ntmps25
      go_wp2
      go_ret
      exact ⟨rfl, rfl⟩
    | cons x r =>
      have hx : (0 : Int) < ((x :: r).length : Int) := by simp only [List.length_cons]; omega
      generalize hn : (x :: r).length = n at *
      have he : endOf (x :: r) 0 = 3 := by simp [endOf]
      have He := Lib.hid he
      clear he hn
      go_enter Tryd.func25, Tryd.ntmps25
      go_wp2
      go_ret
      rw [He.out]; exact ⟨rfl, rfl⟩
  · have hb : (e == 0) = false := by simpa using he
    have he : endOf bs e = e := by simp [endOf, he]
    have He := Lib.hid he
    clear he
    go_enter Tryd.func25, Tryd.ntmps25
    go_wp2
    go_ret
    rw [He.out]; exact ⟨rfl, rfl⟩

set_option maxHeartbeats 400000 in
theorem NewReader_any (w : World) (A : Option Addr) (m c : Nat) (bs : List UInt8) (hr : Rd w A (u8s bs)) (hm : bs.length = m) (hA : A = none → m = 0 ∧ c = 0) (hl : m ≤ 140737488355328) :
    Calls Tryd.prog 12 #[.slice A m c] w fun e w' => ∃ b G, e = .returned (.pointer (some ⟨b, 0, none⟩)) ∧ Rdr w' b G bs 0 ∧ Kept [] w w' ∧ w.heap.size ≤ b ∧ ∀ k ∈ G, w.heap.size ≤ k ∧ k < b := by
  go_enter Tryd.func12, Tryd.ntmps12
  go_wp2_with fail
  refine (Clone8_any w A m c bs hr hm hA hl).mono ?_
  rintro e w1 ⟨v, rfl, h1, h2, h3⟩
  have H1 := Lib.hid h1
  have H2 := Lib.hid h2
  have H3 := Lib.hid h3
  clear hr hm hA h1 h2 h3
  obtain ⟨A1, n1, c1, rfl⟩ := H1.out.form'
  go_wp2
  go_ret
  refine ⟨_, rowOf (.slice A1 n1 c1), rfl, ⟨⟨_, Blk.new _ _ _, (RdB.of_own H1.out).kept ((Kept.refl [] w1).alloc _) (by simp)⟩, ?_⟩, H2.out.alloc _, H2.out.size, fun k hk => ⟨H3.out k hk, H1.out.lt k hk⟩⟩
  intro hk
  have := H1.out.lt _ hk
  omega
end Go.Proofs.YtflbeipnnmeiaaaDoor
