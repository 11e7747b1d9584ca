
/-
  The disk: room, find.
-/
import Derived.Test.YthdjdfdefibepaaDkB
namespace Go.Proofs.Ythdjdfdefibepaa
open Go.RowKit Go.ChangeShapes Go.WideShapes Go.ChangeAt Go.Deep Go.MapKept
set_option linter.unusedVariables false

section
variable {w : World} {G : List Nat} {p : Nat} {fb : List Nat} {D : DkD} {bn bs : Nat} {A : Option Addr} {m c : Nat}
set_option maxRecDepth 100000 in
set_option maxHeartbeats 3200000 in
theorem room_any (h : DkX w G p fb D bn bs A m c) (ok : OkI D) (hl : D.now.length ≤ 1000000) (f : Option Nat) (hf : ∀ i, f = some i → i < D.files.length) (n : Nat) (hn : n ≤ 1000000000) :
    Calls Try.prog 40 #[.pointer (some ⟨p, 0, none⟩), .pointer (f.map fun i => ⟨fbA fb i, 0, none⟩), .int .i64 (n : Nat)] w fun e w' => e = .returned (.bool (roomD D f n)) ∧ Kept [] w w' := by
  have H := Lib.hid h
  have q0 := ok.quota.1
  have q1 := ok.quota.2
  have SZ := Lib.hid (Size_any h ok hl)
  have bd : sizeD D ≤ 1048576 * D.now.length := sum_len_le (fun f hf => (ok.sure f hf).2) _
  have hv : ((f.map (lenF D.files)).getD 0) ≤ 1048576 := by
    cases f with
    | none => simp
    | some i => simpa using lenF_le (fun f hf => (ok.sure f hf).2) i
  obtain ⟨sz, hsz⟩ : ∃ s, sizeD D = s := ⟨_, rfl⟩
  have HS := Lib.hid hsz
  rw [hsz] at bd
  clear hsz
  have hsz2 : sz ≤ 1048576000000 := by omega
  have HC := Lib.hid h.blk.cell
  have HLN := Lib.hid (fun (w' : World) (hk : Kept [] w w') ty => (h.go hk).now.len Try.underlying61 ty)
  have iw1 : IntKind.i64.wrap (D.quota - (sz : Int)) = D.quota - (sz : Int) := IntWalk.i64_in _ (by omega)
  obtain ⟨L, hL⟩ : ∃ L, D.now.length = L := ⟨_, rfl⟩
  have HLL := Lib.hid hL
  clear hL
  cases f with
  | none =>
    have HR := Lib.hid (show roomD D none n = (!(decide (D.quota < (sz : Int)) || (decide (D.quota - (sz : Int) < (n : Nat)) || decide ((1048576 : Int) - (0 : Nat) < (n : Nat)))) && (decide (L < 200))) by rw [← HLL.out]; unfold roomD; rw [HS.out]; rfl)
    clear h ok hf hv bd
    go_enter Try.func40, Try.ntmps40
    go_upto_region 5 with (first
      | (go_at_call 16
         refine SZ.out.mono ?_
         rintro e w1 ⟨rfl, hk1⟩
         rw [HS.out]
         have K1 := Lib.hid hk1
         have hc := (H.out.go hk1).blk.cell
         have hln := HLN.out w1 hk1
         rw [HLL.out] at hln
         clear hk1))
    rcases Int.lt_or_le D.quota (sz : Int) with a1 | a1
    · have HR2 := Lib.hid (show roomD D none n = false by rw [HR.out, decide_eq_true a1]; simp)
      go_wp2
      go_ret
      exact ⟨by rw [HR2.out]; rfl, K1.out⟩
    rcases Int.lt_or_le (D.quota - (sz : Int)) (n : Int) with a2 | a2
    · have HR2 := Lib.hid (show roomD D none n = false by rw [HR.out, decide_eq_true a2]; simp)
      have i1 : ¬ D.quota < (sz : Int) := by omega
      go_wp2
      go_ret
      exact ⟨by rw [HR2.out]; rfl, K1.out⟩
    rcases Int.lt_or_le (1048576 : Int) (n : Int) with a3 | a3
    · have HR2 := Lib.hid (show roomD D none n = false by rw [HR.out, decide_eq_true (show (1048576 : Int) - (0 : Nat) < (n : Nat) by omega)]; simp)
      have i1 : ¬ D.quota < (sz : Int) := by omega
      have i2 : ¬ D.quota - (sz : Int) < (n : Int) := by omega
      go_wp2
      go_ret
      exact ⟨by rw [HR2.out]; rfl, K1.out⟩
    have i1 : ¬ D.quota < (sz : Int) := by omega
    have i2 : ¬ D.quota - (sz : Int) < (n : Int) := by omega
    have i3 : ¬ (1048576 : Int) < (n : Int) := by omega
    have HR2 := Lib.hid (show roomD D none n = decide (L < 200) by rw [HR.out, decide_eq_false i1, decide_eq_false i2, decide_eq_false (show ¬ (1048576 : Int) - (0 : Nat) < (n : Nat) by omega)]; simp)
    rcases Nat.lt_or_ge L 200 with a4 | a4
    · have i4 : (L : Int) < 200 := by omega
      go_wp2
      go_ret
      exact ⟨by rw [HR2.out, decide_eq_true a4]; rfl, K1.out⟩
    · have i4 : ¬ (L : Int) < 200 := by omega
      go_wp2
      go_ret
      exact ⟨by rw [HR2.out, decide_eq_false (by omega)]; rfl, K1.out⟩
  | some i =>
    have hi := hf i rfl
    obtain ⟨fl, hfl⟩ : ∃ f, D.files[i]? = some f := ⟨_, List.getElem?_eq_getElem hi⟩
    have hln := lenF_get hfl
    have hv2 : fl.b.length ≤ 1048576 := by simpa [hln] using hv
    have HR := Lib.hid (show roomD D (some i) n = !(decide (D.quota < (sz : Int)) || (decide (D.quota - (sz : Int) < (n : Nat)) || decide ((1048576 : Int) - (fl.b.length : Nat) < (n : Nat)))) by unfold roomD; rw [HS.out]; simp [hln])
    obtain ⟨A2, c2, _, _, hb, _, _⟩ := h.fs.get hfl
    have HB := Lib.hid hb
    have hbc := hb.cell
    have hbl := hb.lt
    simp only [Option.map_some]
    generalize fbA fb i = g at *
    clear h ok hf hv bd hb hfl hln
    have iw2 : IntKind.i64.wrap (1048576 - (fl.b.length : Int)) = 1048576 - (fl.b.length : Int) := IntWalk.i64_in _ (by omega)
    go_enter Try.func40, Try.ntmps40
    go_upto_region 5 with (first
      | (go_at_call 16
         refine SZ.out.mono ?_
         rintro e w1 ⟨rfl, hk1⟩
         rw [HS.out]
         have K1 := Lib.hid hk1
         have hc := (H.out.go hk1).blk.cell
         clear hk1 hbc))
    rcases Int.lt_or_le D.quota (sz : Int) with a1 | a1
    · have HR2 := Lib.hid (show roomD D (some i) n = false by rw [HR.out, decide_eq_true a1]; simp)
      go_wp2
      go_ret
      exact ⟨by rw [HR2.out]; rfl, K1.out⟩
    rcases Int.lt_or_le (D.quota - (sz : Int)) (n : Int) with a2 | a2
    · have HR2 := Lib.hid (show roomD D (some i) n = false by rw [HR.out, decide_eq_true a2]; simp)
      have i1 : ¬ D.quota < (sz : Int) := by omega
      go_wp2
      go_ret
      exact ⟨by rw [HR2.out]; rfl, K1.out⟩
    rcases Int.lt_or_le ((1048576 : Int) - (fl.b.length : Int)) (n : Int) with a3 | a3
    · have HR2 := Lib.hid (show roomD D (some i) n = false by rw [HR.out, decide_eq_true a3]; simp)
      have i1 : ¬ D.quota < (sz : Int) := by omega
      have i2 : ¬ D.quota - (sz : Int) < (n : Int) := by omega
      go_wp2
      go_ret
      exact ⟨by rw [HR2.out]; rfl, K1.out⟩
    have i1 : ¬ D.quota < (sz : Int) := by omega
    have i2 : ¬ D.quota - (sz : Int) < (n : Int) := by omega
    have i3 : ¬ (1048576 : Int) - (fl.b.length : Int) < (n : Int) := by omega
    have HR2 := Lib.hid (show roomD D (some i) n = true by rw [HR.out, decide_eq_false i1, decide_eq_false i2, decide_eq_false i3]; simp)
    go_wp2
    go_ret
    exact ⟨by rw [HR2.out]; rfl, K1.out⟩
theorem beg_ok {D : DkD} (ok : OkI D) : OkI (begD D).2 := by
  have h := ok.ops
  have hn := ok.nl
  unfold begD
  split
  · exact ⟨ok.now, ok.sur, ok.ch, ok.nn, ok.ns, by simp only; omega, ok.sure, ok.quota, by simp only; omega⟩
  · exact ⟨ok.now, ok.sur, ok.ch, ok.nn, ok.ns, by simp only; omega, ok.sure, ok.quota, by simp only; omega⟩
theorem beg_same (D : DkD) : (begD D).2.files = D.files ∧ (begD D).2.now = D.now ∧ (begD D).2.sur = D.sur ∧ (begD D).2.ch = D.ch ∧ (begD D).2.quota = D.quota ∧ (begD D).2.ops = D.ops + 1 := by
  unfold begD
  split <;> exact ⟨rfl, rfl, rfl, rfl, rfl, rfl⟩
theorem beg_cases (D : DkD) : ((begD D).1 = 8 ∧ D.ops + 1 = D.fail) ∨ ((begD D).1 = 0 ∧ D.ops + 1 ≠ D.fail) := by
  unfold begD
  split
  · exact .inl ⟨rfl, by assumption⟩
  · exact .inr ⟨rfl, by assumption⟩
set_option maxHeartbeats 1600000 in
theorem find_any (h : DkX w G p fb D bn bs A m c) (h0 : 0 ≤ D.ops) (ho : D.ops ≤ 1000000) (x : Bs) :
    Calls Try.prog 42 #[.pointer (some ⟨p, 0, none⟩), .string (strOf x)] w fun e w' => e = .returned (.tuple #[.pointer ((fndD D x).1.map fun i => ⟨fbA fb i, 0, none⟩), .int .i64 (fndD D x).2.1]) ∧ DkX w' G p fb (begD D).2 bn bs A m c ∧ Kept [p] w w' ∧ (fndD D x).2.2 = (begD D).2 := by
  have BG := Lib.hid (begin_any h h0 ho)
  have SM := Lib.hid (beg_same D).2.1
  rcases beg_cases D with ⟨hb, he⟩ | ⟨hb, he⟩
  · have HB := Lib.hid hb
    have HF := Lib.hid (show fndD D x = (none, 8, (begD D).2) by unfold fndD; rw [hb, if_pos (by decide)])
    clear h hb he h0 ho
    go_enter Try.func42, Try.ntmps42
    go_wp2_with (first
      | (go_at_call 38
         refine BG.out.mono ?_
         rintro e w1 ⟨rfl, hx1, hk1⟩
         rw [HB.out]
         have X1 := Lib.hid hx1
         have K1 := Lib.hid hk1
         clear hx1 hk1))
    go_ret2
    exact ⟨by rw [HF.out]; rfl, X1.out, K1.out, by rw [HF.out]⟩
  · have HB := Lib.hid hb
    have HF := Lib.hid (show fndD D x = (match getM D.now x with | some i => (some i, 0, (begD D).2) | none => (none, 6, (begD D).2)) by unfold fndD; rw [hb, if_neg (by decide)]; cases getM D.now x <;> rfl)
    clear h hb he h0 ho
    cases hg : getM D.now x with
    | none =>
      have HG := Lib.hid hg
      clear hg
      go_enter Try.func42, Try.ntmps42
      go_wp2_with (first
        | (go_at_call 38
           refine BG.out.mono ?_
           rintro e w1 ⟨rfl, hx1, hk1⟩
           rw [HB.out]
           have X1 := Lib.hid hx1
           have K1 := Lib.hid hk1
           have hlk := hx1.look x
           rw [SM.out, HG.out] at hlk
           have hc := hx1.blk.cell
           have hl := hx1.blk.lt
           clear hx1 hk1))
      go_ret2
      exact ⟨by rw [HF.out, HG.out]; rfl, X1.out, K1.out, by rw [HF.out, HG.out]⟩
    | some i =>
      have HG := Lib.hid hg
      clear hg
      go_enter Try.func42, Try.ntmps42
      go_wp2_with (first
        | (go_at_call 38
           refine BG.out.mono ?_
           rintro e w1 ⟨rfl, hx1, hk1⟩
           rw [HB.out]
           have X1 := Lib.hid hx1
           have K1 := Lib.hid hk1
           have hlk := hx1.look x
           rw [SM.out, HG.out] at hlk
           simp only [Option.map_some] at hlk
           have hc := hx1.blk.cell
           have hl := hx1.blk.lt
           clear hx1 hk1))
      go_ret2
      exact ⟨by rw [HF.out, HG.out]; rfl, X1.out, K1.out, by rw [HF.out, HG.out]⟩
end
end Go.Proofs.Ythdjdfdefibepaa
