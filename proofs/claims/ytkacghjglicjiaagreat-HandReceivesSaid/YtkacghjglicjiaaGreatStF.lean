/-
  States in memory: a record applied.
-/
import Derived.Test.YtkacghjglicjiaaGreatMap
import Derived.Test.YtkacghjglicjiaaGreatStE
namespace Go.Proofs.YtkacghjglicjiaaGreat
set_option linter.unusedVariables false
section
open Go.RowKit Go.ChangeShapes Go.WideShapes Go.ChangeAt Go.Deep Go.MapKept
set_option maxHeartbeats 4000000 in
set_option maxRecDepth 100000 in
theorem Apply_3 {W w : World} {p bd bf : Nat} {A : Option Addr} {m c : Nat} {S : StD} (h : StAt W w p bd bf A m c S) (ok : OkS S) {G : List Nat} {A' : Option Addr} {m' c' : Nat} (r : RecD) (hr : SmallB w G A' m' c' r.backs) (hk : r.kind = 3) :
    Calls Tryz.prog 52 #[.pointer (some ⟨p, 0, none⟩), .agg #[.int .i64 r.kind, .int .u32 (r.tup.src.toNat : Nat), .int .u32 (r.tup.dst.toNat : Nat), .int .i64 r.tup.proto, .int .i64 r.tup.sport, .int .i64 r.tup.dport, .int .i64 r.fb, .int .i64 r.fg, .int .i64 r.fs, .int .i64 r.gen, .slice A' m' c', .int .i64 r.back, .int .i64 r.until_, .int .i64 r.count]] w fun e w' => ApplyPost W w p bd bf S r e w' := by
  have H := Lib.hid h
  have Ok := Lib.hid ok
  have Hr := Lib.hid hr
  clear ok hr
  have hp := H.out.blk.lt
  have hk5 : Kept [] w (w.alloc (.cells #[.int .i64 r.kind, .int .u32 (r.tup.src.toNat : Nat), .int .u32 (r.tup.dst.toNat : Nat), .int .i64 r.tup.proto, .int .i64 r.tup.sport, .int .i64 r.tup.dport, .int .i64 r.fb, .int .i64 r.fg, .int .i64 r.fs, .int .i64 r.gen, .slice A' m' c', .int .i64 r.back, .int .i64 r.until_, .int .i64 r.count] 43)) := by (repeat (first | exact Kept.refl _ _ | apply Kept.alloc | apply Kept.drew))
  have X5 := Lib.hid (show Blk (w.alloc (.cells #[.int .i64 r.kind, .int .u32 (r.tup.src.toNat : Nat), .int .u32 (r.tup.dst.toNat : Nat), .int .i64 r.tup.proto, .int .i64 r.tup.sport, .int .i64 r.tup.dport, .int .i64 r.fb, .int .i64 r.fg, .int .i64 r.fs, .int .i64 r.gen, .slice A' m' c', .int .i64 r.back, .int .i64 r.until_, .int .i64 r.count] 43)) w.heap.size 43 #[.int .i64 r.kind, .int .u32 (r.tup.src.toNat : Nat), .int .u32 (r.tup.dst.toNat : Nat), .int .i64 r.tup.proto, .int .i64 r.tup.sport, .int .i64 r.tup.dport, .int .i64 r.fb, .int .i64 r.fg, .int .i64 r.fs, .int .i64 r.gen, .slice A' m' c', .int .i64 r.back, .int .i64 r.until_, .int .i64 r.count] from by (repeat (first | (apply Blk.new'; simp; done) | apply Blk.alloc | apply Blk.drew)))
  have hs5 : w.heap.size < (w.alloc (.cells #[.int .i64 r.kind, .int .u32 (r.tup.src.toNat : Nat), .int .u32 (r.tup.dst.toNat : Nat), .int .i64 r.tup.proto, .int .i64 r.tup.sport, .int .i64 r.tup.dport, .int .i64 r.fb, .int .i64 r.fg, .int .i64 r.fs, .int .i64 r.gen, .slice A' m' c', .int .i64 r.back, .int .i64 r.until_, .int .i64 r.count] 43)).heap.size := by simp
  have H5 := Lib.hid (H.out.go hk5)
  have Hr5 : Hid (SmallB (w.alloc (.cells #[.int .i64 r.kind, .int .u32 (r.tup.src.toNat : Nat), .int .u32 (r.tup.dst.toNat : Nat), .int .i64 r.tup.proto, .int .i64 r.tup.sport, .int .i64 r.tup.dport, .int .i64 r.fb, .int .i64 r.fg, .int .i64 r.fs, .int .i64 r.gen, .slice A' m' c', .int .i64 r.back, .int .i64 r.until_, .int .i64 r.count] 43)) G A' m' c' r.backs) := Lib.hid ⟨BkArr.kept Hr.out.1 hk5 (by simp), fun k hk => Nat.lt_of_lt_of_le (Hr.out.2.1 k hk) hk5.size, Hr.out.2.2⟩
  have HK5 := Lib.hid hk5
  clear h hk5
  have hx5 := X5.out.cell
  have b1 : (r.kind == 1) = false := by simp [hk]
  have b2 : (r.kind == 2) = false := by simp [hk]
  have b3 : (r.kind == 3) = true := by simp [hk]
  have b4 : (r.kind == 4) = false := by simp [hk]
  have b5 : (r.kind == 5) = false := by simp [hk]
  have b6 : (r.kind == 6) = false := by simp [hk]
  have HF1 := Lib.hid (fun (hm : mayR r = false) => bad_may hm)
  have HF2 := Lib.hid (fun (hm : mayR r = true) => show badS r = !mayBs r.backs by simp [badS, hk, hm])
  have HF3 := Lib.hid (show ∀ s, doneS s r = { s with gen := r.gen, backs := r.backs } from fun s => by simp [doneS, hk])
  have HF4 := Lib.hid (show fullS S r = false by simp [fullS, hk])
  clear hk
  rcases hmb : mayR r with _ | _
  · have Hm := Lib.hid hmb
    have Hb := Lib.hid (HF1.out hmb)
    clear hmb
    go_enter Tryz.func52, Tryz.ntmps52
    go_wp2_with (go_at_call 57; refine (May_any _ r Hr5.out).mono ?_; rintro e w6 ⟨rfl, hk6⟩; rw [Hm.out]; have H6 := Lib.hid (H5.out.go hk6); have X6 := Lib.hid (X5.out.kept hk6 (by simp)); have HK6 := Lib.hid (HK5.out.trans hk6 (by simp)); have Hr6 : Hid (SmallB w6 G A' m' c' r.backs) := Lib.hid ⟨BkArr.kept Hr5.out.1 hk6 (by simp), fun k hk => Nat.lt_of_lt_of_le (Hr5.out.2.1 k hk) hk6.size, Hr5.out.2.2⟩; have hs6 : w.heap.size < w6.heap.size := Nat.lt_of_lt_of_le hs5 hk6.size; clear hk6 hx5 X5 H5 HK5 Hr5 hs5; have hx6 := X6.out.cell)
    go_ret
    exact ApplyPost.bad H.out HK6.out Hb.out
  have Hm := Lib.hid hmb
  clear hmb HF1
  rcases hmb : mayBs r.backs with _ | _
  · have Hb2 := Lib.hid hmb
    have Hb := Lib.hid (show badS r = true by rw [HF2.out Hm.out, hmb]; rfl)
    clear hmb
    go_enter Tryz.func52, Tryz.ntmps52
    go_wp2_with first | (go_at_call 57; refine (May_any _ r Hr5.out).mono ?_; rintro e w6 ⟨rfl, hk6⟩; rw [Hm.out]; have H6 := Lib.hid (H5.out.go hk6); have X6 := Lib.hid (X5.out.kept hk6 (by simp)); have HK6 := Lib.hid (HK5.out.trans hk6 (by simp)); have Hr6 : Hid (SmallB w6 G A' m' c' r.backs) := Lib.hid ⟨BkArr.kept Hr5.out.1 hk6 (by simp), fun k hk => Nat.lt_of_lt_of_le (Hr5.out.2.1 k hk) hk6.size, Hr5.out.2.2⟩; have hs6 : w.heap.size < w6.heap.size := Nat.lt_of_lt_of_le hs5 hk6.size; clear hk6 hx5 X5 H5 HK5 Hr5 hs5; have hx6 := X6.out.cell) | (go_at_call 89; refine (gMay_any _ r.backs Hr6.out.1).mono ?_; rintro e w9 ⟨rfl, hk9⟩; rw [Hb2.out]; have H9 := Lib.hid (H6.out.go hk9); have X9 := Lib.hid (X6.out.kept hk9 (by simp)); have HK9 := Lib.hid (HK6.out.trans hk9 (by simp)); have Hr9 : Hid (SmallB w9 G A' m' c' r.backs) := Lib.hid ⟨BkArr.kept Hr6.out.1 hk9 (by simp), fun k hk => Nat.lt_of_lt_of_le (Hr6.out.2.1 k hk) hk9.size, Hr6.out.2.2⟩; have hs9 : w.heap.size < w9.heap.size := Nat.lt_of_lt_of_le hs6 hk9.size; clear hk9 hx6 X6 H6 HK6 Hr6 hs6; have hx9 := X9.out.cell)
    go_ret
    exact ApplyPost.bad H.out HK9.out Hb.out
  have Hb2 := Lib.hid hmb
  have Hb := Lib.hid (show badS r = false by rw [HF2.out Hm.out, hmb]; rfl)
  clear hmb HF2
  have Hf := HF4
  go_enter Tryz.func52, Tryz.ntmps52
  go_wp2_with first | (go_at_call 57; refine (May_any _ r Hr5.out).mono ?_; rintro e w6 ⟨rfl, hk6⟩; rw [Hm.out]; have H6 := Lib.hid (H5.out.go hk6); have X6 := Lib.hid (X5.out.kept hk6 (by simp)); have HK6 := Lib.hid (HK5.out.trans hk6 (by simp)); have Hr6 : Hid (SmallB w6 G A' m' c' r.backs) := Lib.hid ⟨BkArr.kept Hr5.out.1 hk6 (by simp), fun k hk => Nat.lt_of_lt_of_le (Hr5.out.2.1 k hk) hk6.size, Hr5.out.2.2⟩; have hs6 : w.heap.size < w6.heap.size := Nat.lt_of_lt_of_le hs5 hk6.size; clear hk6 hx5 X5 H5 HK5 Hr5 hs5; have hx6 := X6.out.cell) | (go_at_call 89; refine (gMay_any _ r.backs Hr6.out.1).mono ?_; rintro e w9 ⟨rfl, hk9⟩; rw [Hb2.out]; have H9 := Lib.hid (H6.out.go hk9); have X9 := Lib.hid (X6.out.kept hk9 (by simp)); have HK9 := Lib.hid (HK6.out.trans hk9 (by simp)); have Hr9 : Hid (SmallB w9 G A' m' c' r.backs) := Lib.hid ⟨BkArr.kept Hr6.out.1 hk9 (by simp), fun k hk => Nat.lt_of_lt_of_le (Hr6.out.2.1 k hk) hk9.size, Hr6.out.2.2⟩; have hs9 : w.heap.size < w9.heap.size := Nat.lt_of_lt_of_le hs6 hk9.size; clear hk9 hx6 X6 H6 HK6 Hr6 hs6; have hx9 := X9.out.cell) | (go_at_call 90; refine (full_any (W := W) ⟨bd, bf, A, m, c, H9.out⟩ Ok.out r A' m' c').mono ?_; rintro e w7 ⟨rfl, hk7⟩; rw [Hf.out]; have H7 := Lib.hid (H9.out.go hk7); have X7 := Lib.hid (X9.out.kept hk7 (by simp)); have HK7 := Lib.hid (HK9.out.trans hk7 (by simp)); have Hr7 : Hid (SmallB w7 G A' m' c' r.backs) := Lib.hid ⟨BkArr.kept Hr9.out.1 hk7 (by simp), fun k hk => Nat.lt_of_lt_of_le (Hr9.out.2.1 k hk) hk7.size, Hr9.out.2.2⟩; have hs7 : w.heap.size < w7.heap.size := Nat.lt_of_lt_of_le hs9 hk7.size; clear hk7 hx9 X9 H9 HK9 Hr9 hs9; have hx7 := X7.out.cell)
  have hkd : Kept [] w7 w7.drew := (Kept.refl [] w7).drew
  have Hrd : Hid (SmallB w7.drew G A' m' c' r.backs) := Lib.hid ⟨BkArr.kept Hr7.out.1 hkd (by simp), fun k hk => Nat.lt_of_lt_of_le (Hr7.out.2.1 k hk) hkd.size, Hr7.out.2.2⟩
  have Hd := Lib.hid (H7.out.go hkd)
  have HKd := Lib.hid (HK7.out.trans hkd (by simp))
  have Xd := Lib.hid (X7.out.kept hkd (by simp))
  clear hkd Hr7 hx7
  go_region_held3 (fun w' => ∀ o, w'.cell? ⟨w.heap.size, o, none⟩ = (#[.int .i64 r.kind, .int .u32 (r.tup.src.toNat : Nat), .int .u32 (r.tup.dst.toNat : Nat), .int .i64 r.tup.proto, .int .i64 r.tup.sport, .int .i64 r.tup.dport, .int .i64 r.fb, .int .i64 r.fg, .int .i64 r.fs, .int .i64 r.gen, .slice A' m' c', .int .i64 r.back, .int .i64 r.until_, .int .i64 r.count] : Array Value)[o]?)
    (exact Blk.cell (t := 43) (by repeat (first | with_reducible exact Xd.out | with_reducible exact X8.out | (with_reducible refine Blk.far ?_ (by simp <;> omega) _))))
    ((go_at_call 91; refine (CloneB_any _ r.backs Hrd.out.1 Hrd.out.2.1 Hrd.out.2.2).mono ?_; rintro e w8 ⟨v8, rfl, hv8⟩; have hk8 := hv8.kept; have X8 := Lib.hid (Xd.out.kept hk8 (by simp)); have hb8 := Hd.out.blk.kept hk8 (by simp); have hc8 := hb8.cell; have hf8 := hb8.frozen; obtain ⟨A8, m8, c8, rfl⟩ := BkV.form hv8; have Hv8 := Lib.hid hv8; clear hk8 hv8 hb8))
  all_goals
    have hg := Hd.out.putG Hv8.out.kept (g := r.gen) (LV.wide Hv8.out Hd.out.kept)
    have H9 := Lib.hid hg.1
    have HK9 := Lib.hid ((HKd.out.mono (T := [p, bd, bf]) (by simp)).trans hg.2 (by simp))
    clear hg
    generalize ((w8.setCell { block := p, off := 0 } (.int .i64 r.gen)).setCell { block := p, off := 1 } (.slice A8 m8 c8)) = w9 at *
    go_wp2
    go_ret
    exact ApplyPost.good H9.out HK9.out Hb.out Hf.out (HF3.out S)
theorem Apply_any {W w : World} {p bd bf : Nat} {A : Option Addr} {m c : Nat} {S : StD} (h : StAt W w p bd bf A m c S) (ok : OkS S) {G : List Nat} {A' : Option Addr} {m' c' : Nat} (r : RecD) (hr : SmallB w G A' m' c' r.backs) :
    Calls Tryz.prog 52 #[.pointer (some ⟨p, 0, none⟩), .agg #[.int .i64 r.kind, .int .u32 (r.tup.src.toNat : Nat), .int .u32 (r.tup.dst.toNat : Nat), .int .i64 r.tup.proto, .int .i64 r.tup.sport, .int .i64 r.tup.dport, .int .i64 r.fb, .int .i64 r.fg, .int .i64 r.fs, .int .i64 r.gen, .slice A' m' c', .int .i64 r.back, .int .i64 r.until_, .int .i64 r.count]] w fun e w' => ApplyPost W w p bd bf S r e w' := by
  by_cases h1 : r.kind = 1
  · exact Apply_1 h ok r hr h1
  by_cases h2 : r.kind = 2
  · exact Apply_2 h ok r hr h2
  by_cases h3 : r.kind = 3
  · exact Apply_3 h ok r hr h3
  by_cases h4 : r.kind = 4
  · exact Apply_4 h ok r hr h4
  by_cases h5 : r.kind = 5
  · exact Apply_5 h ok r hr h5
  by_cases h6 : r.kind = 6
  · exact Apply_6 h ok r hr h6
  exact Apply_o h ok r hr h1 h2 h3 h4 h5 h6
end
end Go.Proofs.YtkacghjglicjiaaGreat
