/-
  States in memory: a record applied.
-/
import Derived.Test.YtkacghjglicjiaaGreatMap
import Derived.Test.YtkacghjglicjiaaGreatStD
namespace Go.Proofs.YtkacghjglicjiaaGreat
set_option linter.unusedVariables false
section
open Go.RowKit Go.ChangeShapes Go.WideShapes Go.ChangeAt Go.Deep Go.MapKept
set_option maxHeartbeats 4000000 in
set_option maxRecDepth 100000 in
theorem Apply_1 {W w : World} {p bd bf : Nat} {A : Option Addr} {m c : Nat} {S : StD} (h : StAt W w p bd bf A m c S) (ok : OkS S) {G : List Nat} {A' : Option Addr} {m' c' : Nat} (r : RecD) (hr : SmallB w G A' m' c' r.backs) (hk : r.kind = 1) :
    Calls Tryz.prog 52 #[.pointer (some ⟨p, 0, none⟩), .agg #[.int .i64 r.kind, .int .u32 (r.tup.src.toNat : Nat), .int .u32 (r.tup.dst.toNat : Nat), .int .i64 r.tup.proto, .int .i64 r.tup.sport, .int .i64 r.tup.dport, .int .i64 r.fb, .int .i64 r.fg, .int .i64 r.fs, .int .i64 r.gen, .slice A' m' c', .int .i64 r.back, .int .i64 r.until_, .int .i64 r.count]] w fun e w' => ApplyPost W w p bd bf S r e w' := by
  have H := Lib.hid h
  have Ok := Lib.hid ok
  have Hr := Lib.hid hr
  clear ok hr
  have hp := H.out.blk.lt
  have hk5 : Kept [] w (w.alloc (.cells #[.int .i64 r.kind, .int .u32 (r.tup.src.toNat : Nat), .int .u32 (r.tup.dst.toNat : Nat), .int .i64 r.tup.proto, .int .i64 r.tup.sport, .int .i64 r.tup.dport, .int .i64 r.fb, .int .i64 r.fg, .int .i64 r.fs, .int .i64 r.gen, .slice A' m' c', .int .i64 r.back, .int .i64 r.until_, .int .i64 r.count] 43)) := by (repeat (first | exact Kept.refl _ _ | apply Kept.alloc | apply Kept.drew))
  have X5 := Lib.hid (show Blk (w.alloc (.cells #[.int .i64 r.kind, .int .u32 (r.tup.src.toNat : Nat), .int .u32 (r.tup.dst.toNat : Nat), .int .i64 r.tup.proto, .int .i64 r.tup.sport, .int .i64 r.tup.dport, .int .i64 r.fb, .int .i64 r.fg, .int .i64 r.fs, .int .i64 r.gen, .slice A' m' c', .int .i64 r.back, .int .i64 r.until_, .int .i64 r.count] 43)) w.heap.size 43 #[.int .i64 r.kind, .int .u32 (r.tup.src.toNat : Nat), .int .u32 (r.tup.dst.toNat : Nat), .int .i64 r.tup.proto, .int .i64 r.tup.sport, .int .i64 r.tup.dport, .int .i64 r.fb, .int .i64 r.fg, .int .i64 r.fs, .int .i64 r.gen, .slice A' m' c', .int .i64 r.back, .int .i64 r.until_, .int .i64 r.count] from by (repeat (first | (apply Blk.new'; simp; done) | apply Blk.alloc | apply Blk.drew)))
  have hs5 : w.heap.size < (w.alloc (.cells #[.int .i64 r.kind, .int .u32 (r.tup.src.toNat : Nat), .int .u32 (r.tup.dst.toNat : Nat), .int .i64 r.tup.proto, .int .i64 r.tup.sport, .int .i64 r.tup.dport, .int .i64 r.fb, .int .i64 r.fg, .int .i64 r.fs, .int .i64 r.gen, .slice A' m' c', .int .i64 r.back, .int .i64 r.until_, .int .i64 r.count] 43)).heap.size := by simp
  have H5 := Lib.hid (H.out.go hk5)
  have Hr5 : Hid (SmallB (w.alloc (.cells #[.int .i64 r.kind, .int .u32 (r.tup.src.toNat : Nat), .int .u32 (r.tup.dst.toNat : Nat), .int .i64 r.tup.proto, .int .i64 r.tup.sport, .int .i64 r.tup.dport, .int .i64 r.fb, .int .i64 r.fg, .int .i64 r.fs, .int .i64 r.gen, .slice A' m' c', .int .i64 r.back, .int .i64 r.until_, .int .i64 r.count] 43)) G A' m' c' r.backs) := Lib.hid ⟨BkArr.kept Hr.out.1 hk5 (by simp), fun k hk => Nat.lt_of_lt_of_le (Hr.out.2.1 k hk) hk5.size, Hr.out.2.2⟩
  have HK5 := Lib.hid hk5
  clear h hk5
  have hx5 := X5.out.cell
  have b1 : (r.kind == 1) = true := by simp [hk]
  have b2 : (r.kind == 2) = false := by simp [hk]
  have b3 : (r.kind == 3) = false := by simp [hk]
  have b4 : (r.kind == 4) = false := by simp [hk]
  have b5 : (r.kind == 5) = false := by simp [hk]
  have b6 : (r.kind == 6) = false := by simp [hk]
  have HF1 := Lib.hid (fun (hm : mayR r = false) => bad_may hm)
  have HF2 := Lib.hid (fun (hm : mayR r = true) => bad_not hm (by simp [hk]) (by simp [hk]))
  have HF3 := Lib.hid (show ∀ s, doneS s r = { s with flows := putM s.flows r.tup (flowR r) } from fun s => by simp [doneS, hk])
  clear hk
  rcases hmb : mayR r with _ | _
  · have Hm := Lib.hid hmb
    have Hb := Lib.hid (HF1.out hmb)
    clear hmb
    go_enter Tryz.func52, Tryz.ntmps52
    go_wp2_with (go_at_call 57; refine (May_any _ r Hr5.out).mono ?_; rintro e w6 ⟨rfl, hk6⟩; rw [Hm.out]; have H6 := Lib.hid (H5.out.go hk6); have X6 := Lib.hid (X5.out.kept hk6 (by simp)); have HK6 := Lib.hid (HK5.out.trans hk6 (by simp)); have Hr6 : Hid (SmallB w6 G A' m' c' r.backs) := Lib.hid ⟨BkArr.kept Hr5.out.1 hk6 (by simp), fun k hk => Nat.lt_of_lt_of_le (Hr5.out.2.1 k hk) hk6.size, Hr5.out.2.2⟩; have hs6 : w.heap.size < w6.heap.size := Nat.lt_of_lt_of_le hs5 hk6.size; clear hk6 hx5 X5 H5 HK5 Hr5 hs5; have hx6 := X6.out.cell)
    go_ret
    exact ApplyPost.bad H.out HK6.out Hb.out
  have Hm := Lib.hid hmb
  clear hmb HF1
  have Hb := Lib.hid (HF2.out Hm.out)
  clear HF2
  rcases hfl : fullS S r with _ | _
  rotate_left
  · have Hf := Lib.hid hfl
    clear hfl
    go_enter Tryz.func52, Tryz.ntmps52
    go_wp2_with first | (go_at_call 57; refine (May_any _ r Hr5.out).mono ?_; rintro e w6 ⟨rfl, hk6⟩; rw [Hm.out]; have H6 := Lib.hid (H5.out.go hk6); have X6 := Lib.hid (X5.out.kept hk6 (by simp)); have HK6 := Lib.hid (HK5.out.trans hk6 (by simp)); have Hr6 : Hid (SmallB w6 G A' m' c' r.backs) := Lib.hid ⟨BkArr.kept Hr5.out.1 hk6 (by simp), fun k hk => Nat.lt_of_lt_of_le (Hr5.out.2.1 k hk) hk6.size, Hr5.out.2.2⟩; have hs6 : w.heap.size < w6.heap.size := Nat.lt_of_lt_of_le hs5 hk6.size; clear hk6 hx5 X5 H5 HK5 Hr5 hs5; have hx6 := X6.out.cell) | (go_at_call 90; refine (full_any (W := W) ⟨bd, bf, A, m, c, H6.out⟩ Ok.out r A' m' c').mono ?_; rintro e w7 ⟨rfl, hk7⟩; rw [Hf.out]; have H7 := Lib.hid (H6.out.go hk7); have X7 := Lib.hid (X6.out.kept hk7 (by simp)); have HK7 := Lib.hid (HK6.out.trans hk7 (by simp)); have Hr7 : Hid (SmallB w7 G A' m' c' r.backs) := Lib.hid ⟨BkArr.kept Hr6.out.1 hk7 (by simp), fun k hk => Nat.lt_of_lt_of_le (Hr6.out.2.1 k hk) hk7.size, Hr6.out.2.2⟩; have hs7 : w.heap.size < w7.heap.size := Nat.lt_of_lt_of_le hs6 hk7.size; clear hk7 hx6 X6 H6 HK6 Hr6 hs6; have hx7 := X7.out.cell)
    go_ret
    exact ApplyPost.full H.out HK7.out Hb.out Hf.out
  have Hf := Lib.hid hfl
  clear hfl
  go_enter Tryz.func52, Tryz.ntmps52
  go_wp2_with first | (go_at_call 57; refine (May_any _ r Hr5.out).mono ?_; rintro e w6 ⟨rfl, hk6⟩; rw [Hm.out]; have H6 := Lib.hid (H5.out.go hk6); have X6 := Lib.hid (X5.out.kept hk6 (by simp)); have HK6 := Lib.hid (HK5.out.trans hk6 (by simp)); have Hr6 : Hid (SmallB w6 G A' m' c' r.backs) := Lib.hid ⟨BkArr.kept Hr5.out.1 hk6 (by simp), fun k hk => Nat.lt_of_lt_of_le (Hr5.out.2.1 k hk) hk6.size, Hr5.out.2.2⟩; have hs6 : w.heap.size < w6.heap.size := Nat.lt_of_lt_of_le hs5 hk6.size; clear hk6 hx5 X5 H5 HK5 Hr5 hs5; have hx6 := X6.out.cell) | (go_at_call 90; refine (full_any (W := W) ⟨bd, bf, A, m, c, H6.out⟩ Ok.out r A' m' c').mono ?_; rintro e w7 ⟨rfl, hk7⟩; rw [Hf.out]; have H7 := Lib.hid (H6.out.go hk7); have X7 := Lib.hid (X6.out.kept hk7 (by simp)); have HK7 := Lib.hid (HK6.out.trans hk7 (by simp)); have Hr7 : Hid (SmallB w7 G A' m' c' r.backs) := Lib.hid ⟨BkArr.kept Hr6.out.1 hk7 (by simp), fun k hk => Nat.lt_of_lt_of_le (Hr6.out.2.1 k hk) hk7.size, Hr6.out.2.2⟩; have hs7 : w.heap.size < w7.heap.size := Nat.lt_of_lt_of_le hs6 hk7.size; clear hk7 hx6 X6 H6 HK6 Hr6 hs6; have hx7 := X7.out.cell)
  obtain ⟨w8, hrun, hm8, hk8⟩ := MapB.put (H7.out.go ((Kept.refl [] w7).drew)).mf ekT_fam Tryz.underlying142 r.tup (flowR r)
  have hb7 := H7.out.cells
  have H8 := Lib.hid ((H7.out.go ((Kept.refl [] w7).drew)).putF hm8 hk8)
  have HK8 := Lib.hid (((HK7.out.drew).mono (T := [p, bd, bf]) (by simp)).trans hk8 (by simp))
  have hrun : (Instr.mapUpdate 142 (.map (some bf)) (.agg #[.int .u32 (r.tup.src.toNat : Nat), .int .u32 (r.tup.dst.toNat : Nat), .int .i64 r.tup.proto, .int .i64 r.tup.sport, .int .i64 r.tup.dport]) (.agg #[.int .u32 (r.tup.src.toNat : Nat), .int .u32 (r.tup.dst.toNat : Nat), .int .i64 r.tup.proto, .int .i64 r.tup.sport, .int .i64 r.tup.dport, .int .i64 r.fb, .int .i64 r.fg, .int .i64 r.fs])).run Tryz.prog w7.drew = .ok () w8 := hrun
  clear hm8 hk8
  obtain ⟨c0, c1, c2, c3⟩ := hb7
  go_region
  all_goals
    go_wp2
    go_ret
    exact ApplyPost.good H8.out HK8.out Hb.out Hf.out (HF3.out S)
set_option maxHeartbeats 4000000 in
set_option maxRecDepth 100000 in
theorem Apply_2 {W w : World} {p bd bf : Nat} {A : Option Addr} {m c : Nat} {S : StD} (h : StAt W w p bd bf A m c S) (ok : OkS S) {G : List Nat} {A' : Option Addr} {m' c' : Nat} (r : RecD) (hr : SmallB w G A' m' c' r.backs) (hk : r.kind = 2) :
    Calls Tryz.prog 52 #[.pointer (some ⟨p, 0, none⟩), .agg #[.int .i64 r.kind, .int .u32 (r.tup.src.toNat : Nat), .int .u32 (r.tup.dst.toNat : Nat), .int .i64 r.tup.proto, .int .i64 r.tup.sport, .int .i64 r.tup.dport, .int .i64 r.fb, .int .i64 r.fg, .int .i64 r.fs, .int .i64 r.gen, .slice A' m' c', .int .i64 r.back, .int .i64 r.until_, .int .i64 r.count]] w fun e w' => ApplyPost W w p bd bf S r e w' := by
  have H := Lib.hid h
  have Ok := Lib.hid ok
  have Hr := Lib.hid hr
  clear ok hr
  have hp := H.out.blk.lt
  have hk5 : Kept [] w (w.alloc (.cells #[.int .i64 r.kind, .int .u32 (r.tup.src.toNat : Nat), .int .u32 (r.tup.dst.toNat : Nat), .int .i64 r.tup.proto, .int .i64 r.tup.sport, .int .i64 r.tup.dport, .int .i64 r.fb, .int .i64 r.fg, .int .i64 r.fs, .int .i64 r.gen, .slice A' m' c', .int .i64 r.back, .int .i64 r.until_, .int .i64 r.count] 43)) := by (repeat (first | exact Kept.refl _ _ | apply Kept.alloc | apply Kept.drew))
  have X5 := Lib.hid (show Blk (w.alloc (.cells #[.int .i64 r.kind, .int .u32 (r.tup.src.toNat : Nat), .int .u32 (r.tup.dst.toNat : Nat), .int .i64 r.tup.proto, .int .i64 r.tup.sport, .int .i64 r.tup.dport, .int .i64 r.fb, .int .i64 r.fg, .int .i64 r.fs, .int .i64 r.gen, .slice A' m' c', .int .i64 r.back, .int .i64 r.until_, .int .i64 r.count] 43)) w.heap.size 43 #[.int .i64 r.kind, .int .u32 (r.tup.src.toNat : Nat), .int .u32 (r.tup.dst.toNat : Nat), .int .i64 r.tup.proto, .int .i64 r.tup.sport, .int .i64 r.tup.dport, .int .i64 r.fb, .int .i64 r.fg, .int .i64 r.fs, .int .i64 r.gen, .slice A' m' c', .int .i64 r.back, .int .i64 r.until_, .int .i64 r.count] from by (repeat (first | (apply Blk.new'; simp; done) | apply Blk.alloc | apply Blk.drew)))
  have hs5 : w.heap.size < (w.alloc (.cells #[.int .i64 r.kind, .int .u32 (r.tup.src.toNat : Nat), .int .u32 (r.tup.dst.toNat : Nat), .int .i64 r.tup.proto, .int .i64 r.tup.sport, .int .i64 r.tup.dport, .int .i64 r.fb, .int .i64 r.fg, .int .i64 r.fs, .int .i64 r.gen, .slice A' m' c', .int .i64 r.back, .int .i64 r.until_, .int .i64 r.count] 43)).heap.size := by simp
  have H5 := Lib.hid (H.out.go hk5)
  have Hr5 : Hid (SmallB (w.alloc (.cells #[.int .i64 r.kind, .int .u32 (r.tup.src.toNat : Nat), .int .u32 (r.tup.dst.toNat : Nat), .int .i64 r.tup.proto, .int .i64 r.tup.sport, .int .i64 r.tup.dport, .int .i64 r.fb, .int .i64 r.fg, .int .i64 r.fs, .int .i64 r.gen, .slice A' m' c', .int .i64 r.back, .int .i64 r.until_, .int .i64 r.count] 43)) G A' m' c' r.backs) := Lib.hid ⟨BkArr.kept Hr.out.1 hk5 (by simp), fun k hk => Nat.lt_of_lt_of_le (Hr.out.2.1 k hk) hk5.size, Hr.out.2.2⟩
  have HK5 := Lib.hid hk5
  clear h hk5
  have hx5 := X5.out.cell
  have b1 : (r.kind == 1) = false := by simp [hk]
  have b2 : (r.kind == 2) = true := by simp [hk]
  have b3 : (r.kind == 3) = false := by simp [hk]
  have b4 : (r.kind == 4) = false := by simp [hk]
  have b5 : (r.kind == 5) = false := by simp [hk]
  have b6 : (r.kind == 6) = false := by simp [hk]
  have HF1 := Lib.hid (fun (hm : mayR r = false) => bad_may hm)
  have HF2 := Lib.hid (fun (hm : mayR r = true) => bad_not hm (by simp [hk]) (by simp [hk]))
  have HF3 := Lib.hid (show ∀ s, doneS s r = { s with flows := delM s.flows r.tup } from fun s => by simp [doneS, hk])
  clear hk
  rcases hmb : mayR r with _ | _
  · have Hm := Lib.hid hmb
    have Hb := Lib.hid (HF1.out hmb)
    clear hmb
    go_enter Tryz.func52, Tryz.ntmps52
    go_wp2_with (go_at_call 57; refine (May_any _ r Hr5.out).mono ?_; rintro e w6 ⟨rfl, hk6⟩; rw [Hm.out]; have H6 := Lib.hid (H5.out.go hk6); have X6 := Lib.hid (X5.out.kept hk6 (by simp)); have HK6 := Lib.hid (HK5.out.trans hk6 (by simp)); have Hr6 : Hid (SmallB w6 G A' m' c' r.backs) := Lib.hid ⟨BkArr.kept Hr5.out.1 hk6 (by simp), fun k hk => Nat.lt_of_lt_of_le (Hr5.out.2.1 k hk) hk6.size, Hr5.out.2.2⟩; have hs6 : w.heap.size < w6.heap.size := Nat.lt_of_lt_of_le hs5 hk6.size; clear hk6 hx5 X5 H5 HK5 Hr5 hs5; have hx6 := X6.out.cell)
    go_ret
    exact ApplyPost.bad H.out HK6.out Hb.out
  have Hm := Lib.hid hmb
  clear hmb HF1
  have Hb := Lib.hid (HF2.out Hm.out)
  clear HF2
  rcases hfl : fullS S r with _ | _
  rotate_left
  · have Hf := Lib.hid hfl
    clear hfl
    go_enter Tryz.func52, Tryz.ntmps52
    go_wp2_with first | (go_at_call 57; refine (May_any _ r Hr5.out).mono ?_; rintro e w6 ⟨rfl, hk6⟩; rw [Hm.out]; have H6 := Lib.hid (H5.out.go hk6); have X6 := Lib.hid (X5.out.kept hk6 (by simp)); have HK6 := Lib.hid (HK5.out.trans hk6 (by simp)); have Hr6 : Hid (SmallB w6 G A' m' c' r.backs) := Lib.hid ⟨BkArr.kept Hr5.out.1 hk6 (by simp), fun k hk => Nat.lt_of_lt_of_le (Hr5.out.2.1 k hk) hk6.size, Hr5.out.2.2⟩; have hs6 : w.heap.size < w6.heap.size := Nat.lt_of_lt_of_le hs5 hk6.size; clear hk6 hx5 X5 H5 HK5 Hr5 hs5; have hx6 := X6.out.cell) | (go_at_call 90; refine (full_any (W := W) ⟨bd, bf, A, m, c, H6.out⟩ Ok.out r A' m' c').mono ?_; rintro e w7 ⟨rfl, hk7⟩; rw [Hf.out]; have H7 := Lib.hid (H6.out.go hk7); have X7 := Lib.hid (X6.out.kept hk7 (by simp)); have HK7 := Lib.hid (HK6.out.trans hk7 (by simp)); have Hr7 : Hid (SmallB w7 G A' m' c' r.backs) := Lib.hid ⟨BkArr.kept Hr6.out.1 hk7 (by simp), fun k hk => Nat.lt_of_lt_of_le (Hr6.out.2.1 k hk) hk7.size, Hr6.out.2.2⟩; have hs7 : w.heap.size < w7.heap.size := Nat.lt_of_lt_of_le hs6 hk7.size; clear hk7 hx6 X6 H6 HK6 Hr6 hs6; have hx7 := X7.out.cell)
    go_ret
    exact ApplyPost.full H.out HK7.out Hb.out Hf.out
  have Hf := Lib.hid hfl
  clear hfl
  go_enter Tryz.func52, Tryz.ntmps52
  go_wp2_with first | (go_at_call 57; refine (May_any _ r Hr5.out).mono ?_; rintro e w6 ⟨rfl, hk6⟩; rw [Hm.out]; have H6 := Lib.hid (H5.out.go hk6); have X6 := Lib.hid (X5.out.kept hk6 (by simp)); have HK6 := Lib.hid (HK5.out.trans hk6 (by simp)); have Hr6 : Hid (SmallB w6 G A' m' c' r.backs) := Lib.hid ⟨BkArr.kept Hr5.out.1 hk6 (by simp), fun k hk => Nat.lt_of_lt_of_le (Hr5.out.2.1 k hk) hk6.size, Hr5.out.2.2⟩; have hs6 : w.heap.size < w6.heap.size := Nat.lt_of_lt_of_le hs5 hk6.size; clear hk6 hx5 X5 H5 HK5 Hr5 hs5; have hx6 := X6.out.cell) | (go_at_call 90; refine (full_any (W := W) ⟨bd, bf, A, m, c, H6.out⟩ Ok.out r A' m' c').mono ?_; rintro e w7 ⟨rfl, hk7⟩; rw [Hf.out]; have H7 := Lib.hid (H6.out.go hk7); have X7 := Lib.hid (X6.out.kept hk7 (by simp)); have HK7 := Lib.hid (HK6.out.trans hk7 (by simp)); have Hr7 : Hid (SmallB w7 G A' m' c' r.backs) := Lib.hid ⟨BkArr.kept Hr6.out.1 hk7 (by simp), fun k hk => Nat.lt_of_lt_of_le (Hr6.out.2.1 k hk) hk7.size, Hr6.out.2.2⟩; have hs7 : w.heap.size < w7.heap.size := Nat.lt_of_lt_of_le hs6 hk7.size; clear hk7 hx6 X6 H6 HK6 Hr6 hs6; have hx7 := X7.out.cell)
  obtain ⟨w8, hrun, hm8, hk8⟩ := MapB.del (H7.out.go ((Kept.refl [] w7).drew)).mf ekT_fam Tryz.underlying142 0 r.tup
  have hb7 := H7.out.cells
  have H8 := Lib.hid ((H7.out.go ((Kept.refl [] w7).drew)).putF hm8 hk8)
  have HK8 := Lib.hid (((HK7.out.drew).mono (T := [p, bd, bf]) (by simp)).trans hk8 (by simp))
  have hrun : (Builtin.delete_ #[142, 39] 0 #[.map (some bf), (.agg #[.int .u32 (r.tup.src.toNat : Nat), .int .u32 (r.tup.dst.toNat : Nat), .int .i64 r.tup.proto, .int .i64 r.tup.sport, .int .i64 r.tup.dport])]).run Tryz.prog w7.drew = .ok (.tuple #[]) w8 := hrun
  clear hm8 hk8
  obtain ⟨c0, c1, c2, c3⟩ := hb7
  go_region
  all_goals
    go_wp2
    go_ret
    exact ApplyPost.good H8.out HK8.out Hb.out Hf.out (HF3.out S)
set_option maxHeartbeats 4000000 in
set_option maxRecDepth 100000 in
theorem Apply_4 {W w : World} {p bd bf : Nat} {A : Option Addr} {m c : Nat} {S : StD} (h : StAt W w p bd bf A m c S) (ok : OkS S) {G : List Nat} {A' : Option Addr} {m' c' : Nat} (r : RecD) (hr : SmallB w G A' m' c' r.backs) (hk : r.kind = 4) :
    Calls Tryz.prog 52 #[.pointer (some ⟨p, 0, none⟩), .agg #[.int .i64 r.kind, .int .u32 (r.tup.src.toNat : Nat), .int .u32 (r.tup.dst.toNat : Nat), .int .i64 r.tup.proto, .int .i64 r.tup.sport, .int .i64 r.tup.dport, .int .i64 r.fb, .int .i64 r.fg, .int .i64 r.fs, .int .i64 r.gen, .slice A' m' c', .int .i64 r.back, .int .i64 r.until_, .int .i64 r.count]] w fun e w' => ApplyPost W w p bd bf S r e w' := by
  have H := Lib.hid h
  have Ok := Lib.hid ok
  have Hr := Lib.hid hr
  clear ok hr
  have hp := H.out.blk.lt
  have hk5 : Kept [] w (w.alloc (.cells #[.int .i64 r.kind, .int .u32 (r.tup.src.toNat : Nat), .int .u32 (r.tup.dst.toNat : Nat), .int .i64 r.tup.proto, .int .i64 r.tup.sport, .int .i64 r.tup.dport, .int .i64 r.fb, .int .i64 r.fg, .int .i64 r.fs, .int .i64 r.gen, .slice A' m' c', .int .i64 r.back, .int .i64 r.until_, .int .i64 r.count] 43)) := by (repeat (first | exact Kept.refl _ _ | apply Kept.alloc | apply Kept.drew))
  have X5 := Lib.hid (show Blk (w.alloc (.cells #[.int .i64 r.kind, .int .u32 (r.tup.src.toNat : Nat), .int .u32 (r.tup.dst.toNat : Nat), .int .i64 r.tup.proto, .int .i64 r.tup.sport, .int .i64 r.tup.dport, .int .i64 r.fb, .int .i64 r.fg, .int .i64 r.fs, .int .i64 r.gen, .slice A' m' c', .int .i64 r.back, .int .i64 r.until_, .int .i64 r.count] 43)) w.heap.size 43 #[.int .i64 r.kind, .int .u32 (r.tup.src.toNat : Nat), .int .u32 (r.tup.dst.toNat : Nat), .int .i64 r.tup.proto, .int .i64 r.tup.sport, .int .i64 r.tup.dport, .int .i64 r.fb, .int .i64 r.fg, .int .i64 r.fs, .int .i64 r.gen, .slice A' m' c', .int .i64 r.back, .int .i64 r.until_, .int .i64 r.count] from by (repeat (first | (apply Blk.new'; simp; done) | apply Blk.alloc | apply Blk.drew)))
  have hs5 : w.heap.size < (w.alloc (.cells #[.int .i64 r.kind, .int .u32 (r.tup.src.toNat : Nat), .int .u32 (r.tup.dst.toNat : Nat), .int .i64 r.tup.proto, .int .i64 r.tup.sport, .int .i64 r.tup.dport, .int .i64 r.fb, .int .i64 r.fg, .int .i64 r.fs, .int .i64 r.gen, .slice A' m' c', .int .i64 r.back, .int .i64 r.until_, .int .i64 r.count] 43)).heap.size := by simp
  have H5 := Lib.hid (H.out.go hk5)
  have Hr5 : Hid (SmallB (w.alloc (.cells #[.int .i64 r.kind, .int .u32 (r.tup.src.toNat : Nat), .int .u32 (r.tup.dst.toNat : Nat), .int .i64 r.tup.proto, .int .i64 r.tup.sport, .int .i64 r.tup.dport, .int .i64 r.fb, .int .i64 r.fg, .int .i64 r.fs, .int .i64 r.gen, .slice A' m' c', .int .i64 r.back, .int .i64 r.until_, .int .i64 r.count] 43)) G A' m' c' r.backs) := Lib.hid ⟨BkArr.kept Hr.out.1 hk5 (by simp), fun k hk => Nat.lt_of_lt_of_le (Hr.out.2.1 k hk) hk5.size, Hr.out.2.2⟩
  have HK5 := Lib.hid hk5
  clear h hk5
  have hx5 := X5.out.cell
  have b1 : (r.kind == 1) = false := by simp [hk]
  have b2 : (r.kind == 2) = false := by simp [hk]
  have b3 : (r.kind == 3) = false := by simp [hk]
  have b4 : (r.kind == 4) = true := by simp [hk]
  have b5 : (r.kind == 5) = false := by simp [hk]
  have b6 : (r.kind == 6) = false := by simp [hk]
  have HF1 := Lib.hid (fun (hm : mayR r = false) => bad_may hm)
  have HF2 := Lib.hid (fun (hm : mayR r = true) => bad_not hm (by simp [hk]) (by simp [hk]))
  have HF3 := Lib.hid (show ∀ s, doneS s r = { s with drains := putM s.drains r.back r.until_ } from fun s => by simp [doneS, hk])
  clear hk
  rcases hmb : mayR r with _ | _
  · have Hm := Lib.hid hmb
    have Hb := Lib.hid (HF1.out hmb)
    clear hmb
    go_enter Tryz.func52, Tryz.ntmps52
    go_wp2_with (go_at_call 57; refine (May_any _ r Hr5.out).mono ?_; rintro e w6 ⟨rfl, hk6⟩; rw [Hm.out]; have H6 := Lib.hid (H5.out.go hk6); have X6 := Lib.hid (X5.out.kept hk6 (by simp)); have HK6 := Lib.hid (HK5.out.trans hk6 (by simp)); have Hr6 : Hid (SmallB w6 G A' m' c' r.backs) := Lib.hid ⟨BkArr.kept Hr5.out.1 hk6 (by simp), fun k hk => Nat.lt_of_lt_of_le (Hr5.out.2.1 k hk) hk6.size, Hr5.out.2.2⟩; have hs6 : w.heap.size < w6.heap.size := Nat.lt_of_lt_of_le hs5 hk6.size; clear hk6 hx5 X5 H5 HK5 Hr5 hs5; have hx6 := X6.out.cell)
    go_ret
    exact ApplyPost.bad H.out HK6.out Hb.out
  have Hm := Lib.hid hmb
  clear hmb HF1
  have Hb := Lib.hid (HF2.out Hm.out)
  clear HF2
  rcases hfl : fullS S r with _ | _
  rotate_left
  · have Hf := Lib.hid hfl
    clear hfl
    go_enter Tryz.func52, Tryz.ntmps52
    go_wp2_with first | (go_at_call 57; refine (May_any _ r Hr5.out).mono ?_; rintro e w6 ⟨rfl, hk6⟩; rw [Hm.out]; have H6 := Lib.hid (H5.out.go hk6); have X6 := Lib.hid (X5.out.kept hk6 (by simp)); have HK6 := Lib.hid (HK5.out.trans hk6 (by simp)); have Hr6 : Hid (SmallB w6 G A' m' c' r.backs) := Lib.hid ⟨BkArr.kept Hr5.out.1 hk6 (by simp), fun k hk => Nat.lt_of_lt_of_le (Hr5.out.2.1 k hk) hk6.size, Hr5.out.2.2⟩; have hs6 : w.heap.size < w6.heap.size := Nat.lt_of_lt_of_le hs5 hk6.size; clear hk6 hx5 X5 H5 HK5 Hr5 hs5; have hx6 := X6.out.cell) | (go_at_call 90; refine (full_any (W := W) ⟨bd, bf, A, m, c, H6.out⟩ Ok.out r A' m' c').mono ?_; rintro e w7 ⟨rfl, hk7⟩; rw [Hf.out]; have H7 := Lib.hid (H6.out.go hk7); have X7 := Lib.hid (X6.out.kept hk7 (by simp)); have HK7 := Lib.hid (HK6.out.trans hk7 (by simp)); have Hr7 : Hid (SmallB w7 G A' m' c' r.backs) := Lib.hid ⟨BkArr.kept Hr6.out.1 hk7 (by simp), fun k hk => Nat.lt_of_lt_of_le (Hr6.out.2.1 k hk) hk7.size, Hr6.out.2.2⟩; have hs7 : w.heap.size < w7.heap.size := Nat.lt_of_lt_of_le hs6 hk7.size; clear hk7 hx6 X6 H6 HK6 Hr6 hs6; have hx7 := X7.out.cell)
    go_ret
    exact ApplyPost.full H.out HK7.out Hb.out Hf.out
  have Hf := Lib.hid hfl
  clear hfl
  go_enter Tryz.func52, Tryz.ntmps52
  go_wp2_with first | (go_at_call 57; refine (May_any _ r Hr5.out).mono ?_; rintro e w6 ⟨rfl, hk6⟩; rw [Hm.out]; have H6 := Lib.hid (H5.out.go hk6); have X6 := Lib.hid (X5.out.kept hk6 (by simp)); have HK6 := Lib.hid (HK5.out.trans hk6 (by simp)); have Hr6 : Hid (SmallB w6 G A' m' c' r.backs) := Lib.hid ⟨BkArr.kept Hr5.out.1 hk6 (by simp), fun k hk => Nat.lt_of_lt_of_le (Hr5.out.2.1 k hk) hk6.size, Hr5.out.2.2⟩; have hs6 : w.heap.size < w6.heap.size := Nat.lt_of_lt_of_le hs5 hk6.size; clear hk6 hx5 X5 H5 HK5 Hr5 hs5; have hx6 := X6.out.cell) | (go_at_call 90; refine (full_any (W := W) ⟨bd, bf, A, m, c, H6.out⟩ Ok.out r A' m' c').mono ?_; rintro e w7 ⟨rfl, hk7⟩; rw [Hf.out]; have H7 := Lib.hid (H6.out.go hk7); have X7 := Lib.hid (X6.out.kept hk7 (by simp)); have HK7 := Lib.hid (HK6.out.trans hk7 (by simp)); have Hr7 : Hid (SmallB w7 G A' m' c' r.backs) := Lib.hid ⟨BkArr.kept Hr6.out.1 hk7 (by simp), fun k hk => Nat.lt_of_lt_of_le (Hr6.out.2.1 k hk) hk7.size, Hr6.out.2.2⟩; have hs7 : w.heap.size < w7.heap.size := Nat.lt_of_lt_of_le hs6 hk7.size; clear hk7 hx6 X6 H6 HK6 Hr6 hs6; have hx7 := X7.out.cell)
  obtain ⟨w8, hrun, hm8, hk8⟩ := MapB.put (H7.out.go ((Kept.refl [] w7).drew)).md ekI_fam Tryz.underlying141 r.back r.until_
  have hb7 := H7.out.cells
  have H8 := Lib.hid ((H7.out.go ((Kept.refl [] w7).drew)).putD hm8 hk8)
  have HK8 := Lib.hid (((HK7.out.drew).mono (T := [p, bd, bf]) (by simp)).trans hk8 (by simp))
  have hrun : (Instr.mapUpdate 141 (.map (some bd)) (.int .i64 r.back) (.int .i64 r.until_)).run Tryz.prog w7.drew = .ok () w8 := hrun
  clear hm8 hk8
  obtain ⟨c0, c1, c2, c3⟩ := hb7
  go_region
  all_goals
    go_wp2
    go_ret
    exact ApplyPost.good H8.out HK8.out Hb.out Hf.out (HF3.out S)
set_option maxHeartbeats 4000000 in
set_option maxRecDepth 100000 in
theorem Apply_5 {W w : World} {p bd bf : Nat} {A : Option Addr} {m c : Nat} {S : StD} (h : StAt W w p bd bf A m c S) (ok : OkS S) {G : List Nat} {A' : Option Addr} {m' c' : Nat} (r : RecD) (hr : SmallB w G A' m' c' r.backs) (hk : r.kind = 5) :
    Calls Tryz.prog 52 #[.pointer (some ⟨p, 0, none⟩), .agg #[.int .i64 r.kind, .int .u32 (r.tup.src.toNat : Nat), .int .u32 (r.tup.dst.toNat : Nat), .int .i64 r.tup.proto, .int .i64 r.tup.sport, .int .i64 r.tup.dport, .int .i64 r.fb, .int .i64 r.fg, .int .i64 r.fs, .int .i64 r.gen, .slice A' m' c', .int .i64 r.back, .int .i64 r.until_, .int .i64 r.count]] w fun e w' => ApplyPost W w p bd bf S r e w' := by
  have H := Lib.hid h
  have Ok := Lib.hid ok
  have Hr := Lib.hid hr
  clear ok hr
  have hp := H.out.blk.lt
  have hk5 : Kept [] w (w.alloc (.cells #[.int .i64 r.kind, .int .u32 (r.tup.src.toNat : Nat), .int .u32 (r.tup.dst.toNat : Nat), .int .i64 r.tup.proto, .int .i64 r.tup.sport, .int .i64 r.tup.dport, .int .i64 r.fb, .int .i64 r.fg, .int .i64 r.fs, .int .i64 r.gen, .slice A' m' c', .int .i64 r.back, .int .i64 r.until_, .int .i64 r.count] 43)) := by (repeat (first | exact Kept.refl _ _ | apply Kept.alloc | apply Kept.drew))
  have X5 := Lib.hid (show Blk (w.alloc (.cells #[.int .i64 r.kind, .int .u32 (r.tup.src.toNat : Nat), .int .u32 (r.tup.dst.toNat : Nat), .int .i64 r.tup.proto, .int .i64 r.tup.sport, .int .i64 r.tup.dport, .int .i64 r.fb, .int .i64 r.fg, .int .i64 r.fs, .int .i64 r.gen, .slice A' m' c', .int .i64 r.back, .int .i64 r.until_, .int .i64 r.count] 43)) w.heap.size 43 #[.int .i64 r.kind, .int .u32 (r.tup.src.toNat : Nat), .int .u32 (r.tup.dst.toNat : Nat), .int .i64 r.tup.proto, .int .i64 r.tup.sport, .int .i64 r.tup.dport, .int .i64 r.fb, .int .i64 r.fg, .int .i64 r.fs, .int .i64 r.gen, .slice A' m' c', .int .i64 r.back, .int .i64 r.until_, .int .i64 r.count] from by (repeat (first | (apply Blk.new'; simp; done) | apply Blk.alloc | apply Blk.drew)))
  have hs5 : w.heap.size < (w.alloc (.cells #[.int .i64 r.kind, .int .u32 (r.tup.src.toNat : Nat), .int .u32 (r.tup.dst.toNat : Nat), .int .i64 r.tup.proto, .int .i64 r.tup.sport, .int .i64 r.tup.dport, .int .i64 r.fb, .int .i64 r.fg, .int .i64 r.fs, .int .i64 r.gen, .slice A' m' c', .int .i64 r.back, .int .i64 r.until_, .int .i64 r.count] 43)).heap.size := by simp
  have H5 := Lib.hid (H.out.go hk5)
  have Hr5 : Hid (SmallB (w.alloc (.cells #[.int .i64 r.kind, .int .u32 (r.tup.src.toNat : Nat), .int .u32 (r.tup.dst.toNat : Nat), .int .i64 r.tup.proto, .int .i64 r.tup.sport, .int .i64 r.tup.dport, .int .i64 r.fb, .int .i64 r.fg, .int .i64 r.fs, .int .i64 r.gen, .slice A' m' c', .int .i64 r.back, .int .i64 r.until_, .int .i64 r.count] 43)) G A' m' c' r.backs) := Lib.hid ⟨BkArr.kept Hr.out.1 hk5 (by simp), fun k hk => Nat.lt_of_lt_of_le (Hr.out.2.1 k hk) hk5.size, Hr.out.2.2⟩
  have HK5 := Lib.hid hk5
  clear h hk5
  have hx5 := X5.out.cell
  have b1 : (r.kind == 1) = false := by simp [hk]
  have b2 : (r.kind == 2) = false := by simp [hk]
  have b3 : (r.kind == 3) = false := by simp [hk]
  have b4 : (r.kind == 4) = false := by simp [hk]
  have b5 : (r.kind == 5) = true := by simp [hk]
  have b6 : (r.kind == 6) = false := by simp [hk]
  have HF1 := Lib.hid (fun (hm : mayR r = false) => bad_may hm)
  have HF2 := Lib.hid (fun (hm : mayR r = true) => bad_not hm (by simp [hk]) (by simp [hk]))
  have HF3 := Lib.hid (show ∀ s, doneS s r = { s with drains := delM s.drains r.back } from fun s => by simp [doneS, hk])
  clear hk
  rcases hmb : mayR r with _ | _
  · have Hm := Lib.hid hmb
    have Hb := Lib.hid (HF1.out hmb)
    clear hmb
    go_enter Tryz.func52, Tryz.ntmps52
    go_wp2_with (go_at_call 57; refine (May_any _ r Hr5.out).mono ?_; rintro e w6 ⟨rfl, hk6⟩; rw [Hm.out]; have H6 := Lib.hid (H5.out.go hk6); have X6 := Lib.hid (X5.out.kept hk6 (by simp)); have HK6 := Lib.hid (HK5.out.trans hk6 (by simp)); have Hr6 : Hid (SmallB w6 G A' m' c' r.backs) := Lib.hid ⟨BkArr.kept Hr5.out.1 hk6 (by simp), fun k hk => Nat.lt_of_lt_of_le (Hr5.out.2.1 k hk) hk6.size, Hr5.out.2.2⟩; have hs6 : w.heap.size < w6.heap.size := Nat.lt_of_lt_of_le hs5 hk6.size; clear hk6 hx5 X5 H5 HK5 Hr5 hs5; have hx6 := X6.out.cell)
    go_ret
    exact ApplyPost.bad H.out HK6.out Hb.out
  have Hm := Lib.hid hmb
  clear hmb HF1
  have Hb := Lib.hid (HF2.out Hm.out)
  clear HF2
  rcases hfl : fullS S r with _ | _
  rotate_left
  · have Hf := Lib.hid hfl
    clear hfl
    go_enter Tryz.func52, Tryz.ntmps52
    go_wp2_with first | (go_at_call 57; refine (May_any _ r Hr5.out).mono ?_; rintro e w6 ⟨rfl, hk6⟩; rw [Hm.out]; have H6 := Lib.hid (H5.out.go hk6); have X6 := Lib.hid (X5.out.kept hk6 (by simp)); have HK6 := Lib.hid (HK5.out.trans hk6 (by simp)); have Hr6 : Hid (SmallB w6 G A' m' c' r.backs) := Lib.hid ⟨BkArr.kept Hr5.out.1 hk6 (by simp), fun k hk => Nat.lt_of_lt_of_le (Hr5.out.2.1 k hk) hk6.size, Hr5.out.2.2⟩; have hs6 : w.heap.size < w6.heap.size := Nat.lt_of_lt_of_le hs5 hk6.size; clear hk6 hx5 X5 H5 HK5 Hr5 hs5; have hx6 := X6.out.cell) | (go_at_call 90; refine (full_any (W := W) ⟨bd, bf, A, m, c, H6.out⟩ Ok.out r A' m' c').mono ?_; rintro e w7 ⟨rfl, hk7⟩; rw [Hf.out]; have H7 := Lib.hid (H6.out.go hk7); have X7 := Lib.hid (X6.out.kept hk7 (by simp)); have HK7 := Lib.hid (HK6.out.trans hk7 (by simp)); have Hr7 : Hid (SmallB w7 G A' m' c' r.backs) := Lib.hid ⟨BkArr.kept Hr6.out.1 hk7 (by simp), fun k hk => Nat.lt_of_lt_of_le (Hr6.out.2.1 k hk) hk7.size, Hr6.out.2.2⟩; have hs7 : w.heap.size < w7.heap.size := Nat.lt_of_lt_of_le hs6 hk7.size; clear hk7 hx6 X6 H6 HK6 Hr6 hs6; have hx7 := X7.out.cell)
    go_ret
    exact ApplyPost.full H.out HK7.out Hb.out Hf.out
  have Hf := Lib.hid hfl
  clear hfl
  go_enter Tryz.func52, Tryz.ntmps52
  go_wp2_with first | (go_at_call 57; refine (May_any _ r Hr5.out).mono ?_; rintro e w6 ⟨rfl, hk6⟩; rw [Hm.out]; have H6 := Lib.hid (H5.out.go hk6); have X6 := Lib.hid (X5.out.kept hk6 (by simp)); have HK6 := Lib.hid (HK5.out.trans hk6 (by simp)); have Hr6 : Hid (SmallB w6 G A' m' c' r.backs) := Lib.hid ⟨BkArr.kept Hr5.out.1 hk6 (by simp), fun k hk => Nat.lt_of_lt_of_le (Hr5.out.2.1 k hk) hk6.size, Hr5.out.2.2⟩; have hs6 : w.heap.size < w6.heap.size := Nat.lt_of_lt_of_le hs5 hk6.size; clear hk6 hx5 X5 H5 HK5 Hr5 hs5; have hx6 := X6.out.cell) | (go_at_call 90; refine (full_any (W := W) ⟨bd, bf, A, m, c, H6.out⟩ Ok.out r A' m' c').mono ?_; rintro e w7 ⟨rfl, hk7⟩; rw [Hf.out]; have H7 := Lib.hid (H6.out.go hk7); have X7 := Lib.hid (X6.out.kept hk7 (by simp)); have HK7 := Lib.hid (HK6.out.trans hk7 (by simp)); have Hr7 : Hid (SmallB w7 G A' m' c' r.backs) := Lib.hid ⟨BkArr.kept Hr6.out.1 hk7 (by simp), fun k hk => Nat.lt_of_lt_of_le (Hr6.out.2.1 k hk) hk7.size, Hr6.out.2.2⟩; have hs7 : w.heap.size < w7.heap.size := Nat.lt_of_lt_of_le hs6 hk7.size; clear hk7 hx6 X6 H6 HK6 Hr6 hs6; have hx7 := X7.out.cell)
  obtain ⟨w8, hrun, hm8, hk8⟩ := MapB.del (H7.out.go ((Kept.refl [] w7).drew)).md ekI_fam Tryz.underlying141 0 r.back
  have hb7 := H7.out.cells
  have H8 := Lib.hid ((H7.out.go ((Kept.refl [] w7).drew)).putD hm8 hk8)
  have HK8 := Lib.hid (((HK7.out.drew).mono (T := [p, bd, bf]) (by simp)).trans hk8 (by simp))
  have hrun : (Builtin.delete_ #[141, 3] 0 #[.map (some bd), (.int .i64 r.back)]).run Tryz.prog w7.drew = .ok (.tuple #[]) w8 := hrun
  clear hm8 hk8
  obtain ⟨c0, c1, c2, c3⟩ := hb7
  go_region
  all_goals
    go_wp2
    go_ret
    exact ApplyPost.good H8.out HK8.out Hb.out Hf.out (HF3.out S)
set_option maxHeartbeats 4000000 in
set_option maxRecDepth 100000 in
theorem Apply_6 {W w : World} {p bd bf : Nat} {A : Option Addr} {m c : Nat} {S : StD} (h : StAt W w p bd bf A m c S) (ok : OkS S) {G : List Nat} {A' : Option Addr} {m' c' : Nat} (r : RecD) (hr : SmallB w G A' m' c' r.backs) (hk : r.kind = 6) :
    Calls Tryz.prog 52 #[.pointer (some ⟨p, 0, none⟩), .agg #[.int .i64 r.kind, .int .u32 (r.tup.src.toNat : Nat), .int .u32 (r.tup.dst.toNat : Nat), .int .i64 r.tup.proto, .int .i64 r.tup.sport, .int .i64 r.tup.dport, .int .i64 r.fb, .int .i64 r.fg, .int .i64 r.fs, .int .i64 r.gen, .slice A' m' c', .int .i64 r.back, .int .i64 r.until_, .int .i64 r.count]] w fun e w' => ApplyPost W w p bd bf S r e w' := by
  have H := Lib.hid h
  have Ok := Lib.hid ok
  have Hr := Lib.hid hr
  clear ok hr
  have hp := H.out.blk.lt
  have hk5 : Kept [] w (w.alloc (.cells #[.int .i64 r.kind, .int .u32 (r.tup.src.toNat : Nat), .int .u32 (r.tup.dst.toNat : Nat), .int .i64 r.tup.proto, .int .i64 r.tup.sport, .int .i64 r.tup.dport, .int .i64 r.fb, .int .i64 r.fg, .int .i64 r.fs, .int .i64 r.gen, .slice A' m' c', .int .i64 r.back, .int .i64 r.until_, .int .i64 r.count] 43)) := by (repeat (first | exact Kept.refl _ _ | apply Kept.alloc | apply Kept.drew))
  have X5 := Lib.hid (show Blk (w.alloc (.cells #[.int .i64 r.kind, .int .u32 (r.tup.src.toNat : Nat), .int .u32 (r.tup.dst.toNat : Nat), .int .i64 r.tup.proto, .int .i64 r.tup.sport, .int .i64 r.tup.dport, .int .i64 r.fb, .int .i64 r.fg, .int .i64 r.fs, .int .i64 r.gen, .slice A' m' c', .int .i64 r.back, .int .i64 r.until_, .int .i64 r.count] 43)) w.heap.size 43 #[.int .i64 r.kind, .int .u32 (r.tup.src.toNat : Nat), .int .u32 (r.tup.dst.toNat : Nat), .int .i64 r.tup.proto, .int .i64 r.tup.sport, .int .i64 r.tup.dport, .int .i64 r.fb, .int .i64 r.fg, .int .i64 r.fs, .int .i64 r.gen, .slice A' m' c', .int .i64 r.back, .int .i64 r.until_, .int .i64 r.count] from by (repeat (first | (apply Blk.new'; simp; done) | apply Blk.alloc | apply Blk.drew)))
  have hs5 : w.heap.size < (w.alloc (.cells #[.int .i64 r.kind, .int .u32 (r.tup.src.toNat : Nat), .int .u32 (r.tup.dst.toNat : Nat), .int .i64 r.tup.proto, .int .i64 r.tup.sport, .int .i64 r.tup.dport, .int .i64 r.fb, .int .i64 r.fg, .int .i64 r.fs, .int .i64 r.gen, .slice A' m' c', .int .i64 r.back, .int .i64 r.until_, .int .i64 r.count] 43)).heap.size := by simp
  have H5 := Lib.hid (H.out.go hk5)
  have Hr5 : Hid (SmallB (w.alloc (.cells #[.int .i64 r.kind, .int .u32 (r.tup.src.toNat : Nat), .int .u32 (r.tup.dst.toNat : Nat), .int .i64 r.tup.proto, .int .i64 r.tup.sport, .int .i64 r.tup.dport, .int .i64 r.fb, .int .i64 r.fg, .int .i64 r.fs, .int .i64 r.gen, .slice A' m' c', .int .i64 r.back, .int .i64 r.until_, .int .i64 r.count] 43)) G A' m' c' r.backs) := Lib.hid ⟨BkArr.kept Hr.out.1 hk5 (by simp), fun k hk => Nat.lt_of_lt_of_le (Hr.out.2.1 k hk) hk5.size, Hr.out.2.2⟩
  have HK5 := Lib.hid hk5
  clear h hk5
  have hx5 := X5.out.cell
  have b1 : (r.kind == 1) = false := by simp [hk]
  have b2 : (r.kind == 2) = false := by simp [hk]
  have b3 : (r.kind == 3) = false := by simp [hk]
  have b4 : (r.kind == 4) = false := by simp [hk]
  have b5 : (r.kind == 5) = false := by simp [hk]
  have b6 : (r.kind == 6) = true := by simp [hk]
  have HF1 := Lib.hid (fun (hm : mayR r = false) => bad_may hm)
  have HF2 := Lib.hid (show badS r = true by simp [badS, hk])
  clear hk
  have Hb := HF2
  rcases hmb : mayR r with _ | _
  all_goals
    have Hm := Lib.hid hmb
    clear hmb
    go_enter Tryz.func52, Tryz.ntmps52
    go_wp2_with (go_at_call 57; refine (May_any _ r Hr5.out).mono ?_; rintro e w6 ⟨rfl, hk6⟩; rw [Hm.out]; have H6 := Lib.hid (H5.out.go hk6); have X6 := Lib.hid (X5.out.kept hk6 (by simp)); have HK6 := Lib.hid (HK5.out.trans hk6 (by simp)); have Hr6 : Hid (SmallB w6 G A' m' c' r.backs) := Lib.hid ⟨BkArr.kept Hr5.out.1 hk6 (by simp), fun k hk => Nat.lt_of_lt_of_le (Hr5.out.2.1 k hk) hk6.size, Hr5.out.2.2⟩; have hs6 : w.heap.size < w6.heap.size := Nat.lt_of_lt_of_le hs5 hk6.size; clear hk6 hx5 X5 H5 HK5 Hr5 hs5; have hx6 := X6.out.cell)
    go_ret
    exact ApplyPost.bad H.out HK6.out HF2.out
set_option maxHeartbeats 4000000 in
set_option maxRecDepth 100000 in
theorem Apply_o {W w : World} {p bd bf : Nat} {A : Option Addr} {m c : Nat} {S : StD} (h : StAt W w p bd bf A m c S) (ok : OkS S) {G : List Nat} {A' : Option Addr} {m' c' : Nat} (r : RecD) (hr : SmallB w G A' m' c' r.backs) (h1 : r.kind ≠ 1) (h2 : r.kind ≠ 2) (h3 : r.kind ≠ 3) (h4 : r.kind ≠ 4) (h5 : r.kind ≠ 5) (h6 : r.kind ≠ 6) :
    Calls Tryz.prog 52 #[.pointer (some ⟨p, 0, none⟩), .agg #[.int .i64 r.kind, .int .u32 (r.tup.src.toNat : Nat), .int .u32 (r.tup.dst.toNat : Nat), .int .i64 r.tup.proto, .int .i64 r.tup.sport, .int .i64 r.tup.dport, .int .i64 r.fb, .int .i64 r.fg, .int .i64 r.fs, .int .i64 r.gen, .slice A' m' c', .int .i64 r.back, .int .i64 r.until_, .int .i64 r.count]] w fun e w' => ApplyPost W w p bd bf S r e w' := by
  have H := Lib.hid h
  have Ok := Lib.hid ok
  have Hr := Lib.hid hr
  clear ok hr
  have hp := H.out.blk.lt
  have hk5 : Kept [] w (w.alloc (.cells #[.int .i64 r.kind, .int .u32 (r.tup.src.toNat : Nat), .int .u32 (r.tup.dst.toNat : Nat), .int .i64 r.tup.proto, .int .i64 r.tup.sport, .int .i64 r.tup.dport, .int .i64 r.fb, .int .i64 r.fg, .int .i64 r.fs, .int .i64 r.gen, .slice A' m' c', .int .i64 r.back, .int .i64 r.until_, .int .i64 r.count] 43)) := by (repeat (first | exact Kept.refl _ _ | apply Kept.alloc | apply Kept.drew))
  have X5 := Lib.hid (show Blk (w.alloc (.cells #[.int .i64 r.kind, .int .u32 (r.tup.src.toNat : Nat), .int .u32 (r.tup.dst.toNat : Nat), .int .i64 r.tup.proto, .int .i64 r.tup.sport, .int .i64 r.tup.dport, .int .i64 r.fb, .int .i64 r.fg, .int .i64 r.fs, .int .i64 r.gen, .slice A' m' c', .int .i64 r.back, .int .i64 r.until_, .int .i64 r.count] 43)) w.heap.size 43 #[.int .i64 r.kind, .int .u32 (r.tup.src.toNat : Nat), .int .u32 (r.tup.dst.toNat : Nat), .int .i64 r.tup.proto, .int .i64 r.tup.sport, .int .i64 r.tup.dport, .int .i64 r.fb, .int .i64 r.fg, .int .i64 r.fs, .int .i64 r.gen, .slice A' m' c', .int .i64 r.back, .int .i64 r.until_, .int .i64 r.count] from by (repeat (first | (apply Blk.new'; simp; done) | apply Blk.alloc | apply Blk.drew)))
  have hs5 : w.heap.size < (w.alloc (.cells #[.int .i64 r.kind, .int .u32 (r.tup.src.toNat : Nat), .int .u32 (r.tup.dst.toNat : Nat), .int .i64 r.tup.proto, .int .i64 r.tup.sport, .int .i64 r.tup.dport, .int .i64 r.fb, .int .i64 r.fg, .int .i64 r.fs, .int .i64 r.gen, .slice A' m' c', .int .i64 r.back, .int .i64 r.until_, .int .i64 r.count] 43)).heap.size := by simp
  have H5 := Lib.hid (H.out.go hk5)
  have Hr5 : Hid (SmallB (w.alloc (.cells #[.int .i64 r.kind, .int .u32 (r.tup.src.toNat : Nat), .int .u32 (r.tup.dst.toNat : Nat), .int .i64 r.tup.proto, .int .i64 r.tup.sport, .int .i64 r.tup.dport, .int .i64 r.fb, .int .i64 r.fg, .int .i64 r.fs, .int .i64 r.gen, .slice A' m' c', .int .i64 r.back, .int .i64 r.until_, .int .i64 r.count] 43)) G A' m' c' r.backs) := Lib.hid ⟨BkArr.kept Hr.out.1 hk5 (by simp), fun k hk => Nat.lt_of_lt_of_le (Hr.out.2.1 k hk) hk5.size, Hr.out.2.2⟩
  have HK5 := Lib.hid hk5
  clear h hk5
  have hx5 := X5.out.cell
  have b1 : (r.kind == 1) = false := by simp [h1]
  have b2 : (r.kind == 2) = false := by simp [h2]
  have b3 : (r.kind == 3) = false := by simp [h3]
  have b4 : (r.kind == 4) = false := by simp [h4]
  have b5 : (r.kind == 5) = false := by simp [h5]
  have b6 : (r.kind == 6) = false := by simp [h6]
  have HF1 := Lib.hid (fun (hm : mayR r = false) => bad_may hm)
  have HF2 := Lib.hid (fun (hm : mayR r = true) => bad_not hm h6 h3)
  have HF3 := Lib.hid (show ∀ s, doneS s r = s from fun s => by simp [doneS, h1, h2, h3, h4, h5])
  clear h1 h2 h3 h4 h5 h6
  rcases hmb : mayR r with _ | _
  · have Hm := Lib.hid hmb
    have Hb := Lib.hid (HF1.out hmb)
    clear hmb
    go_enter Tryz.func52, Tryz.ntmps52
    go_wp2_with (go_at_call 57; refine (May_any _ r Hr5.out).mono ?_; rintro e w6 ⟨rfl, hk6⟩; rw [Hm.out]; have H6 := Lib.hid (H5.out.go hk6); have X6 := Lib.hid (X5.out.kept hk6 (by simp)); have HK6 := Lib.hid (HK5.out.trans hk6 (by simp)); have Hr6 : Hid (SmallB w6 G A' m' c' r.backs) := Lib.hid ⟨BkArr.kept Hr5.out.1 hk6 (by simp), fun k hk => Nat.lt_of_lt_of_le (Hr5.out.2.1 k hk) hk6.size, Hr5.out.2.2⟩; have hs6 : w.heap.size < w6.heap.size := Nat.lt_of_lt_of_le hs5 hk6.size; clear hk6 hx5 X5 H5 HK5 Hr5 hs5; have hx6 := X6.out.cell)
    go_ret
    exact ApplyPost.bad H.out HK6.out Hb.out
  have Hm := Lib.hid hmb
  clear hmb HF1
  have Hb := Lib.hid (HF2.out Hm.out)
  clear HF2
  rcases hfl : fullS S r with _ | _
  rotate_left
  · have Hf := Lib.hid hfl
    clear hfl
    go_enter Tryz.func52, Tryz.ntmps52
    go_wp2_with first | (go_at_call 57; refine (May_any _ r Hr5.out).mono ?_; rintro e w6 ⟨rfl, hk6⟩; rw [Hm.out]; have H6 := Lib.hid (H5.out.go hk6); have X6 := Lib.hid (X5.out.kept hk6 (by simp)); have HK6 := Lib.hid (HK5.out.trans hk6 (by simp)); have Hr6 : Hid (SmallB w6 G A' m' c' r.backs) := Lib.hid ⟨BkArr.kept Hr5.out.1 hk6 (by simp), fun k hk => Nat.lt_of_lt_of_le (Hr5.out.2.1 k hk) hk6.size, Hr5.out.2.2⟩; have hs6 : w.heap.size < w6.heap.size := Nat.lt_of_lt_of_le hs5 hk6.size; clear hk6 hx5 X5 H5 HK5 Hr5 hs5; have hx6 := X6.out.cell) | (go_at_call 90; refine (full_any (W := W) ⟨bd, bf, A, m, c, H6.out⟩ Ok.out r A' m' c').mono ?_; rintro e w7 ⟨rfl, hk7⟩; rw [Hf.out]; have H7 := Lib.hid (H6.out.go hk7); have X7 := Lib.hid (X6.out.kept hk7 (by simp)); have HK7 := Lib.hid (HK6.out.trans hk7 (by simp)); have Hr7 : Hid (SmallB w7 G A' m' c' r.backs) := Lib.hid ⟨BkArr.kept Hr6.out.1 hk7 (by simp), fun k hk => Nat.lt_of_lt_of_le (Hr6.out.2.1 k hk) hk7.size, Hr6.out.2.2⟩; have hs7 : w.heap.size < w7.heap.size := Nat.lt_of_lt_of_le hs6 hk7.size; clear hk7 hx6 X6 H6 HK6 Hr6 hs6; have hx7 := X7.out.cell)
    go_ret
    exact ApplyPost.full H.out HK7.out Hb.out Hf.out
  have Hf := Lib.hid hfl
  clear hfl
  go_enter Tryz.func52, Tryz.ntmps52
  go_wp2_with first | (go_at_call 57; refine (May_any _ r Hr5.out).mono ?_; rintro e w6 ⟨rfl, hk6⟩; rw [Hm.out]; have H6 := Lib.hid (H5.out.go hk6); have X6 := Lib.hid (X5.out.kept hk6 (by simp)); have HK6 := Lib.hid (HK5.out.trans hk6 (by simp)); have Hr6 : Hid (SmallB w6 G A' m' c' r.backs) := Lib.hid ⟨BkArr.kept Hr5.out.1 hk6 (by simp), fun k hk => Nat.lt_of_lt_of_le (Hr5.out.2.1 k hk) hk6.size, Hr5.out.2.2⟩; have hs6 : w.heap.size < w6.heap.size := Nat.lt_of_lt_of_le hs5 hk6.size; clear hk6 hx5 X5 H5 HK5 Hr5 hs5; have hx6 := X6.out.cell) | (go_at_call 90; refine (full_any (W := W) ⟨bd, bf, A, m, c, H6.out⟩ Ok.out r A' m' c').mono ?_; rintro e w7 ⟨rfl, hk7⟩; rw [Hf.out]; have H7 := Lib.hid (H6.out.go hk7); have X7 := Lib.hid (X6.out.kept hk7 (by simp)); have HK7 := Lib.hid (HK6.out.trans hk7 (by simp)); have Hr7 : Hid (SmallB w7 G A' m' c' r.backs) := Lib.hid ⟨BkArr.kept Hr6.out.1 hk7 (by simp), fun k hk => Nat.lt_of_lt_of_le (Hr6.out.2.1 k hk) hk7.size, Hr6.out.2.2⟩; have hs7 : w.heap.size < w7.heap.size := Nat.lt_of_lt_of_le hs6 hk7.size; clear hk7 hx6 X6 H6 HK6 Hr6 hs6; have hx7 := X7.out.cell)
  go_ret
  exact ApplyPost.good H7.out (HK7.out.mono (by simp)) Hb.out Hf.out (HF3.out S)
end
end Go.Proofs.YtkacghjglicjiaaGreat
