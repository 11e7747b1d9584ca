
/-
  The contract of record.Encode.
-/
import Derived.Test.YtoibecclilmllaaRecX
import Derived.Test.YtoibecclilmllaaFrameT
namespace Go.Proofs.Ytoibecclilmllaa
open Go.RowKit Go.ChangeShapes Go.WideShapes Go.Deep
set_option linter.unusedVariables false

def encE (r : RecD) (v : Int) : Int := if verB v = true then (if mayR r = true then 0 else 1) else 10
def encF (r : RecD) (v : Int) : FrameD := if verB v = true ∧ mayR r = true then ⟨r.kind, v, bodyR r v⟩ else default
theorem bodyR_len {r : RecD} (h : mayR r = true) (v : Int) : (bodyR r v).length ≤ 200 := by
  unfold bodyR
  repeat' split
  all_goals simp [tupB_len, u16B_len, u32B_len, i64B_len, u8B_len]
  rename_i h3
  have hl : r.backs.length ≤ 16 := by
    have : (inB r.gen 1000000 && (decide (r.backs.length ≤ 16) && r.backs.all mayB)) = true := by simpa [mayR, h3] using h
    simp at this; exact this.2.1
  have := backsB_len v r.backs
  simp only [List.length_flatMap] at this ⊢
  rw [this]
  split <;> omega
set_option maxHeartbeats 3200000 in
theorem Encode_any (w : World) {G : List Nat} {A : Option Addr} {m c : Nat} (r : RecD) (v : Int) (h : SmallB w G A m c r.backs) (hm : m ≤ 1000) :
    Calls Try.prog 15 #[.agg #[.int .i64 r.kind, .int .u32 (r.tup.src.toNat : Nat), .int .u32 (r.tup.dst.toNat : Nat), .int .i64 r.tup.proto, .int .i64 r.tup.sport, .int .i64 r.tup.dport, .int .i64 r.fb, .int .i64 r.fg, .int .i64 r.fs, .int .i64 r.gen, .slice A m c, .int .i64 r.back, .int .i64 r.until_, .int .i64 r.count], .int .i64 v] w fun e w' => ∃ sl, e = .returned (.tuple #[.agg #[.int .i64 (encF r v).kind, .int .i64 (encF r v).ver, sl], .int .i64 (encE r v)]) ∧ New w 5 1 sl (encF r v).body.length (u8s (encF r v).body) w' := by
  have hk0 : Kept [] w ((w.alloc (.cells #[.int .i64 r.kind, .int .u32 (r.tup.src.toNat : Nat), .int .u32 (r.tup.dst.toNat : Nat), .int .i64 r.tup.proto, .int .i64 r.tup.sport, .int .i64 r.tup.dport, .int .i64 r.fb, .int .i64 r.fg, .int .i64 r.fs, .int .i64 r.gen, .slice A m c, .int .i64 r.back, .int .i64 r.until_, .int .i64 r.count] 29)).alloc (.cells #[.int .i64 0, .int .i64 0, .slice none 0 0] 39)) := by (repeat (first | exact Kept.refl _ _ | apply Kept.alloc | apply Kept.drew))
  have Bx := Lib.hid (show Blk ((w.alloc (.cells #[.int .i64 r.kind, .int .u32 (r.tup.src.toNat : Nat), .int .u32 (r.tup.dst.toNat : Nat), .int .i64 r.tup.proto, .int .i64 r.tup.sport, .int .i64 r.tup.dport, .int .i64 r.fb, .int .i64 r.fg, .int .i64 r.fs, .int .i64 r.gen, .slice A m c, .int .i64 r.back, .int .i64 r.until_, .int .i64 r.count] 29)).alloc (.cells #[.int .i64 0, .int .i64 0, .slice none 0 0] 39)) w.heap.size 29 #[.int .i64 r.kind, .int .u32 (r.tup.src.toNat : Nat), .int .u32 (r.tup.dst.toNat : Nat), .int .i64 r.tup.proto, .int .i64 r.tup.sport, .int .i64 r.tup.dport, .int .i64 r.fb, .int .i64 r.fg, .int .i64 r.fs, .int .i64 r.gen, .slice A m c, .int .i64 r.back, .int .i64 r.until_, .int .i64 r.count] from by (repeat (first | (apply Blk.new'; simp; done) | apply Blk.alloc | apply Blk.drew)))
  have Br := Lib.hid (show Blk ((w.alloc (.cells #[.int .i64 r.kind, .int .u32 (r.tup.src.toNat : Nat), .int .u32 (r.tup.dst.toNat : Nat), .int .i64 r.tup.proto, .int .i64 r.tup.sport, .int .i64 r.tup.dport, .int .i64 r.fb, .int .i64 r.fg, .int .i64 r.fs, .int .i64 r.gen, .slice A m c, .int .i64 r.back, .int .i64 r.until_, .int .i64 r.count] 29)).alloc (.cells #[.int .i64 0, .int .i64 0, .slice none 0 0] 39)) (w.heap.size + 1) 39 #[.int .i64 0, .int .i64 0, .slice none 0 0] from by (repeat (first | (apply Blk.new'; simp; done) | apply Blk.alloc | apply Blk.drew)))
  have H := Lib.hid h
  have Hk0 := Lib.hid hk0
  clear h hk0
  cases hv : verB v
  · have he := Lib.hid (show encE r v = 10 by simp [encE, hv])
    have hf := Lib.hid (show encF r v = default by simp [encF, hv])
    go_enter Try.func15, Try.ntmps15
    go_wp2_with (go_at_call 29; refine (version_any _ _).mono ?_; rintro e w' ⟨rfl, rfl⟩; rw [hv])
    refine bodyPost_ret (by simp [results, Try.results15, go_sem]; rfl) rfl ?_
    rw [he.out, hf.out]
    exact ⟨_, rfl, Own.nil _ _ _, (by (repeat (first | exact Kept.refl _ _ | apply Kept.alloc | apply Kept.drew))), by simp [rowOf, Value.ownBlock]⟩
  · cases hy : mayR r
    · have he := Lib.hid (show encE r v = 1 by simp [encE, hv, hy])
      have hf := Lib.hid (show encF r v = default by simp [encF, hy])
      go_enter Try.func15, Try.ntmps15
      go_wp2_with (first
        | (go_at_call 29; refine (version_any _ _).mono ?_; rintro e w' ⟨rfl, rfl⟩; rw [hv])
        | (go_at_call 9; refine (May_any _ r ⟨BkArr.kept H.out.1 Hk0.out (by simp), fun k hk => Nat.lt_of_lt_of_le (H.out.2.1 k hk) Hk0.out.size, H.out.2.2⟩).mono ?_; rintro e w1 ⟨rfl, hk1⟩; rw [hy]
           have hb1 := Br.out.kept hk1 (by simp)
           have hc1 := hb1.cell
           have hf1 := hb1.frozen
           have Hb1 := Lib.hid hb1
           have Hk1 := Lib.hid (Hk0.out.trans hk1 (by simp))
           clear hk1 hb1))
      obtain ⟨r1, r2, r3⟩ := Hb1.out.cells3 (.int .i64 0) (.int .i64 0) (.slice none 0 0)
      refine bodyPost_ret (by simp [results, Try.results15, go_sem, r1, r2, r3]; rfl) rfl ?_
      rw [he.out, hf.out]
      exact ⟨_, rfl, Own.nil _ _ _, Hk1.out.cells3 (by omega) _ _ _, by simp [rowOf, Value.ownBlock]⟩
    · have he := Lib.hid (show encE r v = 0 by simp [encE, hv, hy])
      have hf := Lib.hid (show encF r v = ⟨r.kind, v, bodyR r v⟩ by simp [encF, hv, hy])
      have Hbl := Lib.hid (bodyR_len hy v)
      go_enter Try.func15, Try.ntmps15
      go_wp2_with (first
        | (go_at_call 29; refine (version_any _ _).mono ?_; rintro e w' ⟨rfl, rfl⟩; rw [hv])
        | (go_at_call 9; refine (May_any _ r ⟨BkArr.kept H.out.1 Hk0.out (by simp), fun k hk => Nat.lt_of_lt_of_le (H.out.2.1 k hk) Hk0.out.size, H.out.2.2⟩).mono ?_; rintro e w1 ⟨rfl, hk1⟩; rw [hy]
           have hcx := ((Bx.out.kept hk1 (by simp)).alloc (.cells #[.slice none 0 0] 54)).cell
           have Bx1 := Lib.hid (Bx.out.kept hk1 (by simp))
           have Br1 := Lib.hid (Br.out.kept hk1 (by simp))
           have hlt1 : w.heap.size + 1 < w1.heap.size := Br1.out.lt
           have Hk1 := Lib.hid (Hk0.out.trans hk1 (by simp))
           clear hk1)
        | (go_at_call 31
           refine (write_any (WV.start (Kept.refl [] w1)) r v (BkArr.kept H.out.1 Hk1.out (by simp)) hm).mono ?_
           rintro e w2 ⟨rfl, hv2⟩
           clear hcx
           have hb2 := Bx1.out.kept hv2.kept (by simp)
           have hk2 : w2.cell? ⟨w.heap.size, 0, none⟩ = some (.int .i64 r.kind) := by simpa using hb2.cell 0
           have Br2 := Lib.hid (Br1.out.kept hv2.kept (by simp))
           have Hk2 := Lib.hid (Hk1.out.trans hv2.kept (by simp))
           have Hv2 := Lib.hid hv2
           have hv2sz : w1.heap.size ≤ w2.heap.size := hv2.kept.size
           clear hv2 hb2))
      go_region_held3 (fun w' => w'.cell? ⟨w.heap.size, 0, none⟩ = some (.int .i64 r.kind)) (first | go_keep | (simp [go_sem, hx3]; done))
        ((go_at_call 32
          refine (VBytes (Hv2.out.go (Kept.refl [] _).drew) (by have := Hbl.out; omega)).mono ?_
          rintro e w3 ⟨A3, n3, c3, rfl, hn3, hn, -, hk3'⟩
          have hk3 := (Kept.refl [] w2).drew.trans hk3' (by simp)
          have hx3 : w3.cell? ⟨w.heap.size, 0, none⟩ = some (.int .i64 r.kind) := (hk3.cell (p := ⟨w.heap.size, 0, none⟩) (Nat.lt_of_lt_of_le (Bx1.out.lt) hv2sz) (by simp)).trans hk2
          have hb3 := Br2.out.kept hk3 (by simp)
          have hc3 := hb3.cell
          have hf3 := hb3.frozen
          have Hb3 := Lib.hid hb3
          have Hk3 := Lib.hid (Hk2.out.trans hk3 (by simp))
          have Hn := Lib.hid hn
          have Hn3 := Lib.hid hn3
          clear hk3 hk3' hb3 hn hn3))
      go_wp2
      obtain ⟨r1, r2, r3⟩ := Hb3.out.cells3 (.int .i64 r.kind) (.int .i64 v) (.slice A3 n3 c3)
      refine bodyPost_ret (by simp [results, Try.results15, go_sem, r1, r2, r3]; rfl) rfl ?_
      rw [he.out, hf.out]
      have hn := Hn.out.cast Hn3.out.symm rfl
      refine ⟨.slice A3 n3 c3, rfl, hn.1.kept (((((Kept.refl [w.heap.size + 1] w3).setCell (p := ⟨w.heap.size + 1, 0, none⟩) (.inl (by simp)) (.int .i64 r.kind)).setCell (p := ⟨w.heap.size + 1, 1, none⟩) (.inl (by simp)) (.int .i64 v)).setCell (p := ⟨w.heap.size + 1, 2, none⟩) (.inl (by simp)) (.slice A3 n3 c3))) (fun k hk hm => ?_), Hk3.out.cells3 (by omega) _ _ _, fun k hk => ?_⟩
      · have := hn.2.2 k hk
        simp at hm
        omega
      · have := hn.2.2 k hk
        omega

set_option maxHeartbeats 800000 in
theorem light8_any (w : World) {G : List Nat} {A : Option Addr} {m c : Nat} (r : RecD) (h : BkArr w G (.slice A m c) r.backs) :
    Calls Try.prog 4 #[.agg #[.int .i64 r.kind, .int .u32 (r.tup.src.toNat : Nat), .int .u32 (r.tup.dst.toNat : Nat), .int .i64 r.tup.proto, .int .i64 r.tup.sport, .int .i64 r.tup.dport, .int .i64 r.fb, .int .i64 r.fg, .int .i64 r.fs, .int .i64 r.gen, .slice A m c, .int .i64 r.back, .int .i64 r.until_, .int .i64 r.count]] w fun e w' => e = .returned (.bool (decide (m ≤ 40))) ∧ Kept [] w w' := by
  have hl := h.len.2.1
  have hl2 := h.len.2.2.1
  unfold maxLen at hl2
  clear h
  by_cases h40 : m ≤ 40
  all_goals
    have hd : decide ((m : Int) ≤ 40) = decide (m ≤ 40) := by rw [decide_eq_decide]; omega
    go_enter Try.func4, Try.ntmps4
    go_wp2
    go_ret
    exact ⟨ret_bool (by first | rfl | (rw [Bool.eq_iff_iff]; simp; omega)), (Kept.refl _ _).alloc _⟩

set_option maxHeartbeats 800000 in
theorem awake8_any (w : World) : Calls Try.prog 5 #[] w fun e w' => e = .returned (.bool true) ∧ Kept [] w w' := by
  have hs : SmallB w [] none 0 0 (({ (default : RecD) with kind := 5, back := 5 } : RecD).backs) := ⟨⟨none, 0, 0, rfl, rfl, by omega, by unfold maxLen; omega, by simp, fun h => absurd rfl h⟩, by simp, by omega⟩
  have h1 : encE { (default : RecD) with kind := 5, back := 5 } 2 = 0 := by decide
  have h2 : encF { (default : RecD) with kind := 5, back := 5 } 2 = ⟨5, 2, [0, 5]⟩ := by
    have : bodyR { (default : RecD) with kind := 5, back := 5 } 2 = [0, 5] := by decide
    rw [← this]; rfl
  have Hs := Lib.hid hs
  have H1 := Lib.hid h1
  have H2 := Lib.hid h2
  clear hs h1 h2
  go_enter Try.func5, Try.ntmps5
  go_wp2_with fail
  refine (Encode_any w { (default : RecD) with kind := 5, back := 5 } 2 Hs.out (by omega)).mono ?_
  rintro e w1 ⟨sl, rfl, hn⟩
  rw [H1.out]
  rw [H2.out] at hn ⊢
  have h7 := RdB.of_own hn.1
  have Hk := Lib.hid hn.2.1
  obtain ⟨A, m, c, rfl, h8, h9, h10, -⟩ := id h7
  obtain rfl : m = 2 := by rw [← h8]; rfl
  obtain ⟨g, o, rfl, hc1⟩ := h7.at (k := 1) (by omega)
  simp only [List.getElem?_cons_zero, List.getElem?_cons_succ, Option.getD_some] at hc1
  have hg : g < w1.heap.size := World.block_lt_of_cell? w1 _ hc1
  clear hn h7 h8
  unfold maxLen at h10
  go_wp2
  go_ret
  exact ⟨rfl, Hk.out.alloc _⟩
end Go.Proofs.Ytoibecclilmllaa
