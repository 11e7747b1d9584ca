
/-
  A state out of a view.
-/
import Derived.Test.YtdabbkkjmmbigaaGreatSuE
namespace Go.Proofs.YtdabbkkjmmbigaaGreat
open Go.RowKit Go.ChangeShapes Go.WideShapes Go.ChangeAt Go.Deep Go.MapKept
set_option linter.unusedVariables false

/-- a state whose blocks are named -/
def StP (W w : World) (p bd bf : Nat) (S : StD) : Prop := ∃ A m c, StAt W w p bd bf A m c S
theorem StP.b {W w : World} {p bd bf : Nat} {S : StD} (h : StP W w p bd bf S) : StB W w p S := ⟨bd, bf, h⟩
theorem StP.go {W w w' : World} {p bd bf : Nat} {S : StD} (h : StP W w p bd bf S) (hk : Kept [] w w') : StP W w' p bd bf S := by
  obtain ⟨A, m, c, h⟩ := h
  exact ⟨A, m, c, h.go hk⟩
theorem StP.kept {W w : World} {p bd bf : Nat} {S : StD} (h : StP W w p bd bf S) : Kept [] W w := h.b.kept
theorem StP.far {W w w' : World} {p bd bf : Nat} {S : StD} (h : StP W w p bd bf S) {g : Nat} {t : TypeId} {cs : Array Value} (hb : Blk w g t cs) (h1 : t ≠ 63) (h2 : 55 ≠ t) (hg : W.heap.size ≤ g) (hk : Kept [g] w w') : StP W w' p bd bf S := by
  obtain ⟨A, m, c, h⟩ := h
  exact ⟨A, m, c, h.far hb h1 h2 hg hk⟩
theorem StP.lts {W w : World} {p bd bf : Nat} {S : StD} (h : StP W w p bd bf S) : (W.heap.size ≤ p ∧ p < w.heap.size) ∧ (W.heap.size ≤ bd ∧ bd < w.heap.size) ∧ (W.heap.size ≤ bf ∧ bf < w.heap.size) := by
  obtain ⟨A, m, c, h⟩ := h
  exact ⟨⟨h.hp, h.blk.lt⟩, ⟨h.hd, h.md.lt⟩, ⟨h.hf, h.mf.lt⟩⟩
theorem apply_p {W w : World} {p bd bf : Nat} {S : StD} (h : StP W w p bd bf S) (ok : OkS S) {G : List Nat} {A' : Option Addr} {m' c' : Nat} (r : RecD) (hr : SmallB w G A' m' c' r.backs) :
    Calls Tryz.prog 11 #[.pointer (some ⟨p, 0, none⟩), .agg #[.int .i64 r.kind, .int .u32 (r.tup.src.toNat : Nat), .int .u32 (r.tup.dst.toNat : Nat), .int .i64 r.tup.proto, .int .i64 r.tup.sport, .int .i64 r.tup.dport, .int .i64 r.fb, .int .i64 r.fg, .int .i64 r.fs, .int .i64 r.gen, .slice A' m' c', .int .i64 r.back, .int .i64 r.until_, .int .i64 r.count]] w fun e w' => e = .returned (.int .i64 (errS S r)) ∧ StP W w' p bd bf (applyS S r) ∧ Kept [p, bd, bf] w w' ∧ ∀ g t cs, Blk w g t cs → t ≠ 63 → Blk w' g t cs := by
  obtain ⟨A, m, c, h⟩ := h
  refine (Apply_any h ok r hr).mono ?_
  rintro e w' ⟨rfl, hk, A, m, c, hs⟩
  exact ⟨rfl, ⟨_, _, _, hs⟩, hk, fun g t cs hb ht => apply_blk h hk hb ht⟩
theorem New_p (w : World) : Calls Tryz.prog 10 #[] w fun e w' => ∃ p bd bf, e = .returned (.pointer (some ⟨p, 0, none⟩)) ∧ StP w w' p bd bf newS := by
  refine (New_any w).mono ?_
  rintro e w' ⟨p, rfl, bd, bf, h⟩
  exact ⟨p, bd, bf, rfl, h⟩
theorem drop_cons {α : Type} {l : List α} {k : Nat} (h : k < l.length) : l.drop k = l[k] :: l.drop (k + 1) := (List.getElem_cons_drop (h := h)).symm
set_option maxRecDepth 100000 in
set_option maxHeartbeats 3200000 in
theorem Of_any (w : World) {G : List Nat} {A1 A2 A3 : Option Addr} {m1 c1 m2 c2 m3 c3 : Nat} (V : VwD) (h : VA w G A1 m1 c1 A2 m2 c2 A3 m3 c3 V) (hd : V.drains.length ≤ 1000) (hf : V.flows.length ≤ 1000) (hb : V.backs.length ≤ 1000) :
    Calls Tryz.prog 5 #[.agg #[.int .i64 V.gen, .slice A1 m1 c1, .slice A2 m2 c2, .slice A3 m3 c3]] w fun e w' => ∃ S e0, runS newS (recsV V) = (S, e0) ∧ Kept [] w w' ∧ ((e0 ≠ 0 ∧ e = .returned (.tuple #[.pointer none, .int .i64 e0])) ∨ (e0 = 0 ∧ ∃ V', IsView S V' ∧ ((sameV V' V = true ∧ ∃ p, e = .returned (.tuple #[.pointer (some ⟨p, 0, none⟩), .int .i64 0]) ∧ StB w w' p S) ∨ (sameV V' V = false ∧ e = .returned (.tuple #[.pointer none, .int .i64 1]))))) := by
  have H := Lib.hid h
  have RA := Lib.hid (fun w' (hk : Kept [] w w') => recs_any w' V (h.go hk) hd hf hb)
  have X0 := Lib.hid (Blk.new w 26 #[.int .i64 V.gen, .slice A1 m1 c1, .slice A2 m2 c2, .slice A3 m3 c3])
  have K0 := Lib.hid ((Kept.refl [] w).alloc (.cells #[.int .i64 V.gen, .slice A1 m1 c1, .slice A2 m2 c2, .slice A3 m3 c3] 26))
  have hs0 : w.heap.size < (w.alloc (.cells #[.int .i64 V.gen, .slice A1 m1 c1, .slice A2 m2 c2, .slice A3 m3 c3] 26)).heap.size := by simp
  clear h
  go_enter Tryz.func5, Tryz.ntmps5
  go_wp2_with (first
    | (go_at_call 10
       refine (New_p _).mono ?_
       rintro e w1 ⟨p, bd, bf, rfl, hn⟩
       have P1 := Lib.hid hn
       have X1 := Lib.hid (X0.out.kept hn.kept (by simp))
       have K1 := Lib.hid (K0.out.trans hn.kept (by simp))
       have hx1 := X1.out.cell
       clear hn)
    | (go_at_call 14
       refine (RA.out _ K1.out).mono ?_
       rintro e w2 ⟨A, m, c, rfl, hr⟩
       have R2 := Lib.hid hr
       have P2 := Lib.hid (P1.out.go hr.kept)
       have X2 := Lib.hid (X1.out.kept hr.kept (by simp))
       clear hr))
  obtain ⟨Gr, har, hgr⟩ := R2.out.arr
  have L2 := Lib.hid har.len
  have hln : c ≤ 2 ^ 63 - 1 := har.len.2.2.1
  have hmc : m ≤ c := har.len.2.1
  have hbk : V.backs.length ≤ 1000 := hb
  have HLS := Lib.hid P1.out.lts
  have HP2 := Lib.hid P2.out.lts
  have HGr := Lib.hid hgr
  have AR := Lib.hid har
  have hbl : ∀ r ∈ recsV V, r.backs.length ≤ 1000 := by
    intro r hr
    unfold recsV at hr
    rcases List.mem_cons.1 hr with rfl | hr
    · exact hb
    · rcases List.mem_append.1 hr with hr | hr
      · obtain ⟨d, _, rfl⟩ := List.mem_map.1 hr
        exact Nat.zero_le _
      · obtain ⟨d, _, rfl⟩ := List.mem_map.1 hr
        exact Nat.zero_le _
  have HBL := Lib.hid hbl
  obtain ⟨l, hl⟩ : ∃ l, recsV V = l := ⟨_, rfl⟩
  simp only [hl] at R2 AR L2 HBL
  have Hl := Lib.hid hl
  clear hl RA
  clear har hgr hbl hd hf hb
  go_loopg [15] m (fun gg i wr => ∃ (j : Nat) (S : StD), j ≤ m ∧ gg = m - j ∧ i = .int .i64 j ∧ OkS S ∧ runS newS l = runS S (l.drop j) ∧ StP w wr p bd bf S ∧ RecArr wr Gr (.slice A m c) l ∧ Blk wr w.heap.size 26 #[.int .i64 V.gen, .slice A1 m1 c1, .slice A2 m2 c2, .slice A3 m3 c3] ∧ ∀ k ∈ Gr, k < wr.heap.size)
  case atStart =>
    have hw : StP w w2 p bd bf newS := by
      obtain ⟨A, m, c, h⟩ := P2.out
      have := K0.out.size
      exact ⟨A, m, c, h.blk, h.md, h.mf, LV.wide h.bk K0.out, by have := h.hp; omega, by have := h.hd; omega, by have := h.hf; omega, h.ne⟩
    exact ⟨0, newS, by omega, by omega, rfl, OkS.new, by rw [List.drop_zero], hw, AR.out, X2.out, fun k hk => (HGr.out k hk).2⟩
  case round =>
    obtain ⟨j, S, hj, rfl, rfl, hok, hrun, hst, hra, hbx, hlt⟩ := hrel
    have Ok := Lib.hid hok
    have Run := Lib.hid hrun
    have St := Lib.hid hst
    have Ra := Lib.hid hra
    have Bx := Lib.hid hbx
    have Lt := Lib.hid hlt
    clear hok hrun hst hra hbx hlt
    by_cases hlt : j < m
    · have hkl : j < l.length := by rw [L2.out.1]; exact hlt
      obtain ⟨g, o, B, n, d, rfl, hg, hgG, hat, hbk⟩ := Ra.out.at (k := j) hkl
      have Hbk := Lib.hid hbk
      have hn1 : n ≤ 1000 := by rw [← hbk.len.1]; exact HBL.out _ (List.getElem_mem hkl)
      have Hdr := Lib.hid (drop_cons hkl)
      clear hbk
      generalize l[j]'hkl = r at *
      obtain ⟨c0, c1', c2', c3', c4, c5, c6, c7, c8, c9, c10, c11, c12, c13⟩ := hat
      have i0 : (0 : Int) ≤ (j : Int) := by omega
      have i1 : (j : Int) < (m : Int) := by omega
      have iw : IntKind.i64.wrap ((j : Int) + 1) = (j : Int) + 1 := IntWalk.i64_in _ (by omega)
      have AP := Lib.hid (fun (w' : World) (hk : Kept [] wr w') => apply_p (St.out.go hk) Ok.out r (⟨BkArr.kept Hbk.out hk (by simp), fun q hq => Nat.lt_of_lt_of_le (Lt.out q hq) hk.size, by omega⟩ : SmallB w' Gr B n d r.backs))
      by_cases he : errS S r = 0
      · have HE := Lib.hid he
        clear he
        go_wp2_with (first
          | (((with_reducible show wpList _ _ _ ({ dst := none, op := Op.store 45 (.tmp 7) (.tmp 18), type := _, pos := _, after := _, guard := _ } :: _) _ _); refine wpList_put (t := 45) rfl 45 (.tmp 7) (.tmp 18) rfl _ (by rfl) (by rfl) (by (repeat (first | (apply Blk.new'; simp; done) | apply Blk.alloc | apply Blk.drew))) (by rfl) (by kernel_rfl) (by simp [Value.oneCell']) ?_; intro w5 hb5 hk5; have Hb5 := Lib.hid hb5; have Hk5 := Lib.hid hk5; clear hb5 hk5)
             have K5 := Lib.hid (((Kept.refl [] wr).alloc _).trans Hk5.out (fun i hi => .inr (by simp at hi; omega)))
             have hx5 := Hb5.out.cell)
          | (go_at_call 11
             refine (AP.out _ K5.out).mono ?_
             rintro e w6 ⟨rfl, hs6, hk6, hb6⟩
             rw [HE.out]
             have S6 := Lib.hid hs6
             have X6 := Lib.hid (hb6 _ _ _ (Bx.out.kept K5.out (by simp)) (by decide))
             have A6 := Lib.hid (RecArr.kept (RecArr.kept Ra.out K5.out (by simp)) hk6 (by
               intro k hk hm
               have h1 := HGr.out k hk
               have h2 := HLS.out
               simp at hm
               omega))
             have Lt6 := Lib.hid (fun k hk => Nat.lt_of_lt_of_le (Lt.out k hk) (Nat.le_trans K5.out.size hk6.size))
             clear hs6 hk6 hb6))
        go_roundg (m - (j + 1))
        case measure => omega
        case rel => exact ⟨j + 1, applyS S r, by omega, rfl, by go_num, Ok.out.apply r, by rw [Run.out, Hdr.out, run_cons HE.out], S6.out, A6.out, X6.out, Lt6.out⟩
      · obtain ⟨e0, he0⟩ : ∃ e0, errS S r = e0 := ⟨_, rfl⟩
        have hres := Lib.hid (show runS newS l = (S, e0) by rw [Run.out, Hdr.out, ← he0]; exact if_neg he)
        have HE : Hid (errS S r = e0) := Lib.hid he0
        have HN : Hid (e0 ≠ 0 ∧ applyS S r = S) := Lib.hid ⟨by rw [← he0]; exact he, if_neg he⟩
        have i3 : (e0 == 0) = false := by rw [← he0]; simp [he]
        have i4 : (e0 != 0) = true := by rw [← he0]; simp [he]
        clear he he0
        go_wp2_with (first
          | (((with_reducible show wpList _ _ _ ({ dst := none, op := Op.store 45 (.tmp 7) (.tmp 18), type := _, pos := _, after := _, guard := _ } :: _) _ _); refine wpList_put (t := 45) rfl 45 (.tmp 7) (.tmp 18) rfl _ (by rfl) (by rfl) (by (repeat (first | (apply Blk.new'; simp; done) | apply Blk.alloc | apply Blk.drew))) (by rfl) (by kernel_rfl) (by simp [Value.oneCell']) ?_; intro w5 hb5 hk5; have Hb5 := Lib.hid hb5; have Hk5 := Lib.hid hk5; clear hb5 hk5)
             have K5 := Lib.hid (((Kept.refl [] wr).alloc _).trans Hk5.out (fun i hi => .inr (by simp at hi; omega)))
             have hx5 := Hb5.out.cell)
          | (go_at_call 11
             refine (AP.out _ K5.out).mono ?_
             rintro e w6 ⟨rfl, hs6, hk6, hb6⟩
             rw [HE.out]
             have S6 := Lib.hid hs6
             clear hs6 hk6 hb6))
        go_ret2
        exact ⟨S, e0, (by rw [Hl.out]; exact hres.out), S6.out.kept, .inl ⟨HN.out.1, rfl⟩⟩
    · obtain rfl : m = j := by omega
      have i1 : ¬ (m : Int) < (m : Int) := by omega
      have hres := Lib.hid (show runS newS l = (S, 0) by
        rw [Run.out, List.drop_of_length_le (by rw [L2.out.1]; exact Nat.le_refl _)]; rfl)
      have SD := Lib.hid (St.out.b.go ((Kept.refl [] wr).drew))
      have hx := Bx.out.cell
      go_wp2
      go_region_held3 (fun w' => ∀ o, w'.cell? ⟨w.heap.size, o, none⟩ = (#[.int .i64 V.gen, .slice A1 m1 c1, .slice A2 m2 c2, .slice A3 m3 c3] : Array Value)[o]?)
        (exact (Blk.kept (S := []) Bx.out (by repeat (first | exact Kept.refl _ _ | exact K8.out | exact K7.out | apply Kept.alloc | apply Kept.drew)) (by simp)).cell)
        (first
          | (go_at_call 9
             refine (View_any SD.out Ok.out).mono ?_
             rintro e w7 ⟨V', B1, n1, d1, B2, n2, d2, B3, n3, d3, rfl, hv, h3⟩
             have HV := Lib.hid hv
             have K7 := Lib.hid (((Kept.refl [] wr).drew).trans (LV.kept h3.bk) (by simp))
             obtain ⟨G7, hva, _⟩ := Vw3.va h3
             have VA7 := Lib.hid hva
             have VV7 := Lib.hid (H.out.go (St.out.kept.trans K7.out (by simp)))
             have X7 := Lib.hid (Bx.out.kept K7.out (by simp))
             have hx7 := X7.out.cell
             clear hv h3 hva)
          | (go_at_call 7
             refine (StSame_any _ V' V VA7.out VV7.out).mono ?_
             rintro e w8 ⟨rfl, hk8⟩
             have K8 := Lib.hid (K7.out.trans hk8 (by simp))
             have X8 := Lib.hid (Bx.out.kept K8.out (by simp))
             have hx8 := X8.out.cell
             obtain ⟨b, hsv⟩ : ∃ b, sameV V' V = b := ⟨_, rfl⟩
             rw [hsv]
             have HSV := Lib.hid hsv
             clear hk8 hsv))
      all_goals
        cases b
        · go_wp2
          go_ret2
          exact ⟨S, 0, (by rw [Hl.out]; exact hres.out), St.out.kept.trans K8.out (by simp), .inr ⟨rfl, V', HV.out, .inr ⟨HSV.out, rfl⟩⟩⟩
        · go_wp2
          go_ret2
          exact ⟨S, 0, (by rw [Hl.out]; exact hres.out), St.out.kept.trans K8.out (by simp), .inr ⟨rfl, V', HV.out, .inl ⟨HSV.out, p, rfl, St.out.b.go K8.out⟩⟩⟩
end Go.Proofs.YtdabbkkjmmbigaaGreat
