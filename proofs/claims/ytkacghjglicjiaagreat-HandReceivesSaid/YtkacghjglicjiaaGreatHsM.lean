
/-
  The hand-off: HandReceives, its inner function.
-/
import Derived.Test.YtkacghjglicjiaaGreatHsH
namespace Go.Proofs.YtkacghjglicjiaaGreat
open Go.RowKit Go.ChangeShapes Go.WideShapes Go.ChangeAt Go.Deep Go.MapKept
set_option linter.unusedVariables false

def pbs (r : RecD) (v : Int) : List UInt8 := if encE r v = 0 then putF (encF r v) else []
def pn (r : RecD) (v : Int) : Int := if encE r v = 0 then 1 else 0
theorem pbs_le (r : RecD) (v : Int) : (pbs r v).length ≤ 4112 := by
  unfold pbs
  split
  · have := join_le [encF r v]; simpa [joinF_cons, joinF_nil] using this
  · simp
theorem pn_le (r : RecD) (v : Int) : 0 ≤ pn r v ∧ pn r v ≤ 1 := by
  unfold pn
  split <;> omega
/-- the bytes put so far, and how many frames they are -/
structure PutAt (W : World) (gb gn : Nat) (bs : List UInt8) (n : Int) (w : World) : Prop where
  ex : ∃ B bm bc, Blk w gb 31 #[.slice B bm bc] ∧ NB W w (.slice B bm bc) bs
  nb : Blk w gn 3 #[.int .i64 n]
  lo : W.heap.size ≤ gb ∧ W.heap.size ≤ gn
theorem PutAt.go {W w w' : World} {gb gn : Nat} {bs : List UInt8} {n : Int} (h : PutAt W gb gn bs n w) (hk : Kept [] w w') : PutAt W gb gn bs n w' := by
  obtain ⟨⟨B, bm, bc, h1, h2⟩, h3, h4⟩ := h
  exact ⟨⟨B, bm, bc, h1.kept hk (by simp), h2.go hk⟩, h3.kept hk (by simp), h4⟩
theorem PutAt.kept {W w : World} {gb gn : Nat} {bs : List UInt8} {n : Int} (h : PutAt W gb gn bs n w) : Kept [] W w := by
  obtain ⟨⟨B, bm, bc, h1, h2⟩, h3, h4⟩ := h
  exact h2.kept
theorem PutAt.size {W w : World} {gb gn : Nat} {bs : List UInt8} {n : Int} (h : PutAt W gb gn bs n w) : gb < w.heap.size ∧ gn < w.heap.size ∧ gb ≠ gn := by
  obtain ⟨⟨B, bm, bc, h1, h2⟩, h3, h4⟩ := h
  exact ⟨h1.lt, h3.lt, h1.ne h3 (by decide)⟩
/-- behind more bytes in a new row, and one more of them counted -/
theorem PutAt.step {W w w' : World} {gb gn : Nat} {bs cs : List UInt8} {n n' : Int} {B A : Option Addr} {bm bc m c : Nat} (h1 : Blk w gb 31 #[.slice B bm bc]) (h2 : NB W w (.slice B bm bc) bs) (h3 : Blk w gn 3 #[.int .i64 n]) (h4 : W.heap.size ≤ gb ∧ W.heap.size ≤ gn)
    (hn : NB W w' (.slice A m c) cs) (hk : Kept (rowOf (.slice B bm bc)) w w') : PutAt W gb gn cs n' ((w'.setCell ⟨gb, 0, none⟩ (.slice A m c)).setCell ⟨gn, 0, none⟩ (.int .i64 n')) := by
  have a1 := h1.kept hk (fun hm => h2.1.ne_blk h1 (by decide) hm)
  have a3 := h3.kept hk (fun hm => h2.1.ne_blk h3 (by decide) hm)
  have hne := a1.ne a3 (by decide)
  have k1 : Kept [gb] w' (w'.setCell ⟨gb, 0, none⟩ (.slice A m c)) := (Kept.refl _ _).setCell (.inl (by simp)) _
  have k2 : Kept [gn] (w'.setCell ⟨gb, 0, none⟩ (.slice A m c)) ((w'.setCell ⟨gb, 0, none⟩ (.slice A m c)).setCell ⟨gn, 0, none⟩ (.int .i64 n')) := (Kept.refl _ _).setCell (.inl (by simp)) _
  have b1 : Blk (w'.setCell ⟨gb, 0, none⟩ (.slice A m c)) gb 31 #[.slice A m c] := a1.set 0 _
  have b3 := a3.kept k1 (by simpa using fun e => hne e.symm)
  have n1 := hn.other k1 (fun k hk' hm => by simp at hm; subst hm; exact hn.1.ne_blk a1 (by decide) hk') (by simpa using h4.1)
  have n2 := n1.other k2 (fun k hk' hm => by simp at hm; subst hm; exact n1.1.ne_blk b3 (by decide) hk') (by simpa using h4.2)
  exact ⟨⟨A, m, c, b1.kept k2 (by simpa using hne), n2⟩, b3.set 0 _, h4⟩
set_option maxRecDepth 100000 in
set_option maxHeartbeats 6400000 in
theorem putR_any (W w : World) {gb gn : Nat} {bs : List UInt8} {n : Int} (hp : PutAt W gb gn bs n w) {G : List Nat} {B : Option Addr} {m c : Nat} (r : RecD) (v : Int) (hs : SmallB w G B m c r.backs) (hl : bs.length ≤ 900000) (hn : 0 ≤ n ∧ n ≤ 1000) :
    Calls Tryz.prog 12 #[.agg #[.int .i64 r.kind, .int .u32 (r.tup.src.toNat : Nat), .int .u32 (r.tup.dst.toNat : Nat), .int .i64 r.tup.proto, .int .i64 r.tup.sport, .int .i64 r.tup.dport, .int .i64 r.fb, .int .i64 r.fg, .int .i64 r.fs, .int .i64 r.gen, .slice B m c, .int .i64 r.back, .int .i64 r.until_, .int .i64 r.count], .int .i64 v, .pointer (some ⟨gb, 0, none⟩), .pointer (some ⟨gn, 0, none⟩)] w fun e w' => e = .returned (.tuple #[]) ∧ PutAt W gb gn (bs ++ pbs r v) (n + pn r v) w' := by
  have X0 := Lib.hid (Blk.new w 43 #[.int .i64 r.kind, .int .u32 (r.tup.src.toNat : Nat), .int .u32 (r.tup.dst.toNat : Nat), .int .i64 r.tup.proto, .int .i64 r.tup.sport, .int .i64 r.tup.dport, .int .i64 r.fb, .int .i64 r.fg, .int .i64 r.fs, .int .i64 r.gen, .slice B m c, .int .i64 r.back, .int .i64 r.until_, .int .i64 r.count])
  have K0 := Lib.hid ((Kept.refl [] w).alloc (.cells #[.int .i64 r.kind, .int .u32 (r.tup.src.toNat : Nat), .int .u32 (r.tup.dst.toNat : Nat), .int .i64 r.tup.proto, .int .i64 r.tup.sport, .int .i64 r.tup.dport, .int .i64 r.fb, .int .i64 r.fg, .int .i64 r.fs, .int .i64 r.gen, .slice B m c, .int .i64 r.back, .int .i64 r.until_, .int .i64 r.count] 43))
  have S0 := Lib.hid (show SmallB (w.alloc (.cells #[.int .i64 r.kind, .int .u32 (r.tup.src.toNat : Nat), .int .u32 (r.tup.dst.toNat : Nat), .int .i64 r.tup.proto, .int .i64 r.tup.sport, .int .i64 r.tup.dport, .int .i64 r.fb, .int .i64 r.fg, .int .i64 r.fs, .int .i64 r.gen, .slice B m c, .int .i64 r.back, .int .i64 r.until_, .int .i64 r.count] 43)) G B m c r.backs from ⟨BkArr.kept hs.1 K0.out (by simp), fun k hk => Nat.lt_of_lt_of_le (hs.2.1 k hk) K0.out.size, hs.2.2⟩)
  have P0 := Lib.hid (hp.go K0.out)
  have HL := Lib.hid hl
  have n0 := hn.1
  have n1 := hn.2
  clear hs hp hl hn
  obtain ⟨en, hen⟩ : ∃ x, encE r v = x := ⟨_, rfl⟩
  have HEN := Lib.hid hen
  obtain ⟨f, hf⟩ : ∃ x, encF r v = x := ⟨_, rfl⟩
  have HF := Lib.hid hf
  clear hf
  go_enter Tryz.func12, Tryz.ntmps12
  go_upto_region 1 with fail
  obtain ⟨wa, hwa⟩ : ∃ wa, w.alloc (.cells #[.int .i64 r.kind, .int .u32 (r.tup.src.toNat : Nat), .int .u32 (r.tup.dst.toNat : Nat), .int .i64 r.tup.proto, .int .i64 r.tup.sport, .int .i64 r.tup.dport, .int .i64 r.fb, .int .i64 r.fg, .int .i64 r.fs, .int .i64 r.gen, .slice B m c, .int .i64 r.back, .int .i64 r.until_, .int .i64 r.count] 43) = wa := ⟨_, rfl⟩
  rw [hwa] at X0 K0 S0 P0
  simp only [hwa]
  clear hwa
  have hx0 := X0.out.cell
  go_upto_region 2 with (first
    | (go_at_call 13
       with_reducible refine (rEncode_any wa r v S0.out).mono ?_
       rintro e w1 ⟨sl, rfl, hN⟩
       rw [HF.out] at hN ⊢
       rw [HEN.out]
       obtain ⟨E1, e1, f1, rfl⟩ := hN.form
       have P1 := Lib.hid (P0.out.go hN.kept)
       have N1 := Lib.hid hN
       clear hN hx0)
    | (((with_reducible show wpList _ _ _ ({ dst := none, op := Op.store 45 (.tmp 6) (.tmp 14), type := _, pos := _, after := _, guard := _ } :: _) _ _); refine wpList_put (t := 45) rfl 45 (.tmp 6) (.tmp 14) rfl _ (by rfl) (by rfl) (by (repeat (first | (apply Blk.new'; simp; done) | apply Blk.alloc | apply Blk.drew))) (by rfl) (by kernel_rfl) (by simp [Value.oneCell']) ?_; intro w2 hb2 hk2; have Hb2 := Lib.hid hb2; have Hk2 := Lib.hid hk2; clear hb2 hk2)
       have hk2 : Kept [] w1 w2 := ((Kept.refl [] w1).alloc _).trans Hk2.out (fun i hi => .inr (by simp at hi; omega))
       have P2 := Lib.hid (P1.out.go hk2)
       have N2 := Lib.hid (N1.out.go hk2)
       have hx2 := Hb2.out.cell
       clear hk2))
  by_cases h0 : en = 0
  · subst h0
    have PB := Lib.hid (show pbs r v = putF f by unfold pbs; rw [if_pos hen, HF.out])
    have PN := Lib.hid (show pn r v = 1 by unfold pn; rw [if_pos hen])
    clear hen
    go_upto_region 4 with (first
      | (go_at_call 14
         with_reducible refine (rPut_any w2 _ _ _ _ f N2.out.rd).mono ?_
         rintro e w3 ⟨v3, rfl, hn3⟩
         have hN := NB.of hn3
         obtain ⟨E3, e3, f3, rfl⟩ := hN.form
         have P3 := Lib.hid (P2.out.go hN.kept)
         have N3 := Lib.hid hN
         clear hN hn3 hx2))
    obtain ⟨⟨bA, bm, bc, hbb, hnb⟩, hnn, hlo⟩ := P3.out
    have HBB := Lib.hid hbb
    have HNB := Lib.hid hnb
    have HNN := Lib.hid hnn
    have LO := Lib.hid hlo
    have PL := Lib.hid (show (putF f).length ≤ 4112 by rw [← PB.out]; exact pbs_le r v)
    have EL := Lib.hid N3.out.rd.len.1
    have hc1 := hbb.cell
    have hc2 := hnn.cell
    have hf1 := hbb.frozen
    have hf2 := hnn.frozen
    have hl1 := hbb.lt
    have hl2 := hnn.lt
    have hne := hbb.ne hnn (by decide)
    have iw : IntKind.i64.wrap (n + 1) = n + 1 := IntWalk.i64_in _ (by omega)
    clear hbb hnb hnn hlo
    go_wp2_with (first
      | (at_builtin
         apply wpList_catk rfl (.tmp 23) (.tmp 24) rfl
         case hs => exact rfl
         case hN => exact HNB.out
         case hx => exact rfl
         case hR => exact N3.out.rd
         case hl => exact (by have := HL.out; have := PL.out; have := EL.out; omega)
         intro F4 r4 w4 hn4 hk4
         have N4 := Lib.hid hn4
         have K4 := Lib.hid hk4
         have HB4 := Lib.hid (HBB.out.kept hk4 (fun hm => HNB.out.1.ne_blk HBB.out (by decide) hm))
         have HN4 := Lib.hid (HNN.out.kept hk4 (fun hm => HNB.out.1.ne_blk HNN.out (by decide) hm))
         have hd1 := HB4.out.cell
         have hd2 := HN4.out.cell
         have hg1 := HB4.out.frozen
         have hg2 := HN4.out.frozen
         clear hn4 hk4 hc1 hc2 hf1 hf2))
    go_end0
    refine ⟨rfl, ?_⟩
    rw [PB.out, PN.out]
    exact PutAt.step HBB.out HNB.out HNN.out LO.out N4.out K4.out
  · have i0 : (en != 0) = true := by simp [h0]
    have PB := Lib.hid (show pbs r v = [] by unfold pbs; rw [if_neg (by rw [hen]; exact h0)])
    have PN := Lib.hid (show pn r v = 0 by unfold pn; rw [if_neg (by rw [hen]; exact h0)])
    clear hen h0
    go_wp2_with fail
    refine bodyPost_ret (results_none rfl _ _ _) rfl ?_
    refine ⟨rfl, ?_⟩
    rw [PB.out, PN.out, List.append_nil, Int.add_zero]
    exact P2.out
end Go.Proofs.YtkacghjglicjiaaGreat
