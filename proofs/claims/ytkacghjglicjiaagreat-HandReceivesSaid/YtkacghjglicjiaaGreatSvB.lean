/-
  The document's answer on flows: rows cut, rows joined.
-/
import Derived.Laws.EntriesVeiled
import Derived.Test.YtkacghjglicjiaaGreatSuD
namespace Go.Proofs.YtkacghjglicjiaaGreat
set_option linter.unusedVariables false
section
open Go.RowKit Go.ChangeShapes Go.WideShapes Go.ChangeAt Go.Deep Go.MapKept
theorem may_len {l : List BackD} (h : mayBs l = true) : l.length ≤ 16 := by
  unfold mayBs at h
  simp at h
  exact h.1
theorem IsView.lens {S : StD} (ok : OkS S) {V : VwD} (h : IsView S V) : V.drains.length ≤ 16 ∧ V.flows.length ≤ 256 ∧ V.backs.length ≤ 16 :=
  ⟨by rw [h.dp.length_eq]; exact ok.ld, by rw [h.fp.length_eq, List.length_map]; exact ok.lf, by rw [h.backs]; exact may_len ok.mb⟩
theorem Records_any {W w : World} {p : Nat} {S : StD} (h : StB W w p S) (ok : OkS S) : Calls Tryz.prog 21 #[.pointer (some ⟨p, 0, none⟩)] w fun e w' => ∃ V A m c, e = .returned (.slice A m c) ∧ IsView S V ∧ RecN w w' (.slice A m c) (recsV V) := by
  have H := Lib.hid h
  have Ok := Lib.hid ok
  clear h ok
  go_enter Tryz.func21, Tryz.ntmps21
  go_wp2_with (first
    | (go_at_call 55
       refine (View_any H.out Ok.out).mono ?_
       rintro e w1 ⟨V, A1, m1, c1, A2, m2, c2, A3, m3, c3, rfl, hv, h3⟩
       have HV := Lib.hid hv
       have K1 := Lib.hid (LV.kept h3.bk)
       obtain ⟨G, hva, _⟩ := Vw3.va h3
       have VA1 := Lib.hid hva
       have hl := hv.lens Ok.out
       have RA := Lib.hid (recs_any w1 V hva (by omega) (by omega) (by omega))
       clear hv h3 hva hl)
    | (go_at_call 53
       refine RA.out.mono ?_
       rintro e w2 ⟨A, m, c, rfl, hr⟩
       have HR := Lib.hid (hr.wide K1.out)
       clear hr))
  go_ret
  exact ⟨_, _, _, _, rfl, HV.out, HR.out⟩
end
section
open Go.RowKit Go.ChangeShapes Go.WideShapes Go.ChangeAt Go.Deep Go.MapKept
def StP (W w : World) (p bd bf : Nat) (S : StD) : Prop := ∃ A m c, StAt W w p bd bf A m c S
theorem StP.b {W w : World} {p bd bf : Nat} {S : StD} (h : StP W w p bd bf S) : StB W w p S := ⟨bd, bf, h⟩
theorem StP.go {W w w' : World} {p bd bf : Nat} {S : StD} (h : StP W w p bd bf S) (hk : Kept [] w w') : StP W w' p bd bf S := by
  obtain ⟨A, m, c, h⟩ := h
  exact ⟨A, m, c, h.go hk⟩
theorem StP.kept {W w : World} {p bd bf : Nat} {S : StD} (h : StP W w p bd bf S) : Kept [] W w := h.b.kept
theorem StP.far {W w w' : World} {p bd bf : Nat} {S : StD} (h : StP W w p bd bf S) {g : Nat} {t : TypeId} {cs : Array Value} (hb : Blk w g t cs) (h1 : t ≠ 144) (h2 : 78 ≠ t) (hg : W.heap.size ≤ g) (hk : Kept [g] w w') : StP W w' p bd bf S := by
  obtain ⟨A, m, c, h⟩ := h
  exact ⟨A, m, c, h.far hb h1 h2 hg hk⟩
theorem StP.lts {W w : World} {p bd bf : Nat} {S : StD} (h : StP W w p bd bf S) : (W.heap.size ≤ p ∧ p < w.heap.size) ∧ (W.heap.size ≤ bd ∧ bd < w.heap.size) ∧ (W.heap.size ≤ bf ∧ bf < w.heap.size) := by
  obtain ⟨A, m, c, h⟩ := h
  exact ⟨⟨h.hp, h.blk.lt⟩, ⟨h.hd, h.md.lt⟩, ⟨h.hf, h.mf.lt⟩⟩
theorem apply_p {W w : World} {p bd bf : Nat} {S : StD} (h : StP W w p bd bf S) (ok : OkS S) {G : List Nat} {A' : Option Addr} {m' c' : Nat} (r : RecD) (hr : SmallB w G A' m' c' r.backs) :
    Calls Tryz.prog 52 #[.pointer (some ⟨p, 0, none⟩), .agg #[.int .i64 r.kind, .int .u32 (r.tup.src.toNat : Nat), .int .u32 (r.tup.dst.toNat : Nat), .int .i64 r.tup.proto, .int .i64 r.tup.sport, .int .i64 r.tup.dport, .int .i64 r.fb, .int .i64 r.fg, .int .i64 r.fs, .int .i64 r.gen, .slice A' m' c', .int .i64 r.back, .int .i64 r.until_, .int .i64 r.count]] w fun e w' => e = .returned (.int .i64 (errS S r)) ∧ StP W w' p bd bf (applyS S r) ∧ Kept [p, bd, bf] w w' ∧ ∀ g t cs, Blk w g t cs → t ≠ 144 → Blk w' g t cs := by
  obtain ⟨A, m, c, h⟩ := h
  refine (Apply_any h ok r hr).mono ?_
  rintro e w' ⟨rfl, hk, A, m, c, hs⟩
  exact ⟨rfl, ⟨_, _, _, hs⟩, hk, fun g t cs hb ht => apply_blk h hk hb ht⟩
theorem New_p (w : World) : Calls Tryz.prog 51 #[] w fun e w' => ∃ p bd bf, e = .returned (.pointer (some ⟨p, 0, none⟩)) ∧ StP w w' p bd bf newS := by
  refine (New_any w).mono ?_
  rintro e w' ⟨p, rfl, bd, bf, h⟩
  exact ⟨p, bd, bf, rfl, h⟩
theorem drop_cons {α : Type} {l : List α} {k : Nat} (h : k < l.length) : l.drop k = l[k] :: l.drop (k + 1) := (List.getElem_cons_drop (h := h)).symm
set_option maxRecDepth 100000 in
set_option maxHeartbeats 3200000 in
theorem Of_any (w : World) {G : List Nat} {A1 A2 A3 : Option Addr} {m1 c1 m2 c2 m3 c3 : Nat} (V : VwD) (h : VA w G A1 m1 c1 A2 m2 c2 A3 m3 c3 V) (hd : V.drains.length ≤ 1000) (hf : V.flows.length ≤ 1000) (hb : V.backs.length ≤ 1000) :
    Calls Tryz.prog 20 #[.agg #[.int .i64 V.gen, .slice A1 m1 c1, .slice A2 m2 c2, .slice A3 m3 c3]] w fun e w' => ∃ S e0, runS newS (recsV V) = (S, e0) ∧ Kept [] w w' ∧ ((e0 ≠ 0 ∧ e = .returned (.tuple #[.pointer none, .int .i64 e0])) ∨ (e0 = 0 ∧ ∃ V', IsView S V' ∧ ((sameV V' V = true ∧ ∃ p, e = .returned (.tuple #[.pointer (some ⟨p, 0, none⟩), .int .i64 0]) ∧ StB w w' p S) ∨ (sameV V' V = false ∧ e = .returned (.tuple #[.pointer none, .int .i64 1]))))) := by
  have H := Lib.hid h
  have RA := Lib.hid (fun w' (hk : Kept [] w w') => recs_any w' V (h.go hk) hd hf hb)
  have X0 := Lib.hid (Blk.new w 26 #[.int .i64 V.gen, .slice A1 m1 c1, .slice A2 m2 c2, .slice A3 m3 c3])
  have K0 := Lib.hid ((Kept.refl [] w).alloc (.cells #[.int .i64 V.gen, .slice A1 m1 c1, .slice A2 m2 c2, .slice A3 m3 c3] 26))
  have hs0 : w.heap.size < (w.alloc (.cells #[.int .i64 V.gen, .slice A1 m1 c1, .slice A2 m2 c2, .slice A3 m3 c3] 26)).heap.size := by simp
  clear h
  go_enter Tryz.func20, Tryz.ntmps20
  go_wp2_with (first
    | (go_at_call 51
       refine (New_p _).mono ?_
       rintro e w1 ⟨p, bd, bf, rfl, hn⟩
       have P1 := Lib.hid hn
       have X1 := Lib.hid (X0.out.kept hn.kept (by simp))
       have K1 := Lib.hid (K0.out.trans hn.kept (by simp))
       have hx1 := X1.out.cell
       clear hn)
    | (go_at_call 53
       refine (RA.out _ K1.out).mono ?_
       rintro e w2 ⟨A, m, c, rfl, hr⟩
       have R2 := Lib.hid hr
       have P2 := Lib.hid (P1.out.go hr.kept)
       have X2 := Lib.hid (X1.out.kept hr.kept (by simp))
       clear hr))
  obtain ⟨Gr, har, hgr⟩ := R2.out.arr
  have L2 := Lib.hid har.len
  have hln : c ≤ 2 ^ 63 - 1 := har.len.2.2.1
  have hmc : m ≤ c := har.len.2.1
  have hbk : V.backs.length ≤ 1000 := hb
  have HLS := Lib.hid P1.out.lts
  have HP2 := Lib.hid P2.out.lts
  have HGr := Lib.hid hgr
  have AR := Lib.hid har
  have hbl : ∀ r ∈ recsV V, r.backs.length ≤ 1000 := by
    intro r hr
    unfold recsV at hr
    rcases List.mem_cons.1 hr with rfl | hr
    · exact hb
    · rcases List.mem_append.1 hr with hr | hr
      · obtain ⟨d, _, rfl⟩ := List.mem_map.1 hr
        exact Nat.zero_le _
      · obtain ⟨d, _, rfl⟩ := List.mem_map.1 hr
        exact Nat.zero_le _
  have HBL := Lib.hid hbl
  obtain ⟨l, hl⟩ : ∃ l, recsV V = l := ⟨_, rfl⟩
  simp only [hl] at R2 AR L2 HBL
  have Hl := Lib.hid hl
  clear hl RA
  clear har hgr hbl hd hf hb
  go_loopg [15] m (fun gg i wr => ∃ (j : Nat) (S : StD), j ≤ m ∧ gg = m - j ∧ i = .int .i64 j ∧ OkS S ∧ runS newS l = runS S (l.drop j) ∧ StP w wr p bd bf S ∧ RecArr wr Gr (.slice A m c) l ∧ Blk wr w.heap.size 26 #[.int .i64 V.gen, .slice A1 m1 c1, .slice A2 m2 c2, .slice A3 m3 c3] ∧ ∀ k ∈ Gr, k < wr.heap.size)
  case atStart =>
    have hw : StP w w2 p bd bf newS := by
      obtain ⟨A, m, c, h⟩ := P2.out
      have := K0.out.size
      exact ⟨A, m, c, h.blk, h.md, h.mf, LV.wide h.bk K0.out, by have := h.hp; omega, by have := h.hd; omega, by have := h.hf; omega, h.ne⟩
    exact ⟨0, newS, by omega, by omega, rfl, OkS.new, by rw [List.drop_zero], hw, AR.out, X2.out, fun k hk => (HGr.out k hk).2⟩
  case round =>
    obtain ⟨j, S, hj, rfl, rfl, hok, hrun, hst, hra, hbx, hlt⟩ := hrel
    have Ok := Lib.hid hok
    have Run := Lib.hid hrun
    have St := Lib.hid hst
    have Ra := Lib.hid hra
    have Bx := Lib.hid hbx
    have Lt := Lib.hid hlt
    clear hok hrun hst hra hbx hlt
    by_cases hlt : j < m
    · have hkl : j < l.length := by rw [L2.out.1]; exact hlt
      obtain ⟨g, o, B, n, d, rfl, hg, hgG, hat, hbk⟩ := Ra.out.at (k := j) hkl
      have Hbk := Lib.hid hbk
      have hn1 : n ≤ 1000 := by rw [← hbk.len.1]; exact HBL.out _ (List.getElem_mem hkl)
      have Hdr := Lib.hid (drop_cons hkl)
      clear hbk
      generalize l[j]'hkl = r at *
      obtain ⟨c0, c1', c2', c3', c4, c5, c6, c7, c8, c9, c10, c11, c12, c13⟩ := hat
      have i0 : (0 : Int) ≤ (j : Int) := by omega
      have i1 : (j : Int) < (m : Int) := by omega
      have iw : IntKind.i64.wrap ((j : Int) + 1) = (j : Int) + 1 := IntWalk.i64_in _ (by omega)
      have AP := Lib.hid (fun (w' : World) (hk : Kept [] wr w') => apply_p (St.out.go hk) Ok.out r (⟨BkArr.kept Hbk.out hk (by simp), fun q hq => Nat.lt_of_lt_of_le (Lt.out q hq) hk.size, by omega⟩ : SmallB w' Gr B n d r.backs))
      by_cases he : errS S r = 0
      · have HE := Lib.hid he
        clear he
        go_wp2_with (first
          | (((with_reducible show wpList _ _ _ ({ dst := none, op := Op.store 43 (.tmp 7) (.tmp 18), type := _, pos := _, after := _, guard := _ } :: _) _ _); refine wpList_put (t := 43) rfl 43 (.tmp 7) (.tmp 18) rfl _ (by rfl) (by rfl) (by (repeat (first | (apply Blk.new'; simp; done) | apply Blk.alloc | apply Blk.drew))) (by rfl) (by kernel_rfl) (by simp [Value.oneCell']) ?_; intro w5 hb5 hk5; have Hb5 := Lib.hid hb5; have Hk5 := Lib.hid hk5; clear hb5 hk5)
             have K5 := Lib.hid (((Kept.refl [] wr).alloc _).trans Hk5.out (fun i hi => .inr (by simp at hi; omega)))
             have hx5 := Hb5.out.cell)
          | (go_at_call 52
             refine (AP.out _ K5.out).mono ?_
             rintro e w6 ⟨rfl, hs6, hk6, hb6⟩
             rw [HE.out]
             have S6 := Lib.hid hs6
             have X6 := Lib.hid (hb6 _ _ _ (Bx.out.kept K5.out (by simp)) (by decide))
             have A6 := Lib.hid (RecArr.kept (RecArr.kept Ra.out K5.out (by simp)) hk6 (by
               intro k hk hm
               have h1 := HGr.out k hk
               have h2 := HLS.out
               simp at hm
               omega))
             have Lt6 := Lib.hid (fun k hk => Nat.lt_of_lt_of_le (Lt.out k hk) (Nat.le_trans K5.out.size hk6.size))
             clear hs6 hk6 hb6))
        go_roundg (m - (j + 1))
        case measure => omega
        case rel => exact ⟨j + 1, applyS S r, by omega, rfl, by go_num, Ok.out.apply r, by rw [Run.out, Hdr.out, run_cons HE.out], S6.out, A6.out, X6.out, Lt6.out⟩
      · obtain ⟨e0, he0⟩ : ∃ e0, errS S r = e0 := ⟨_, rfl⟩
        have hres := Lib.hid (show runS newS l = (S, e0) by rw [Run.out, Hdr.out, ← he0]; exact if_neg he)
        have HE : Hid (errS S r = e0) := Lib.hid he0
        have HN : Hid (e0 ≠ 0 ∧ applyS S r = S) := Lib.hid ⟨by rw [← he0]; exact he, if_neg he⟩
        have i3 : (e0 == 0) = false := by rw [← he0]; simp [he]
        have i4 : (e0 != 0) = true := by rw [← he0]; simp [he]
        clear he he0
        go_wp2_with (first
          | (((with_reducible show wpList _ _ _ ({ dst := none, op := Op.store 43 (.tmp 7) (.tmp 18), type := _, pos := _, after := _, guard := _ } :: _) _ _); refine wpList_put (t := 43) rfl 43 (.tmp 7) (.tmp 18) rfl _ (by rfl) (by rfl) (by (repeat (first | (apply Blk.new'; simp; done) | apply Blk.alloc | apply Blk.drew))) (by rfl) (by kernel_rfl) (by simp [Value.oneCell']) ?_; intro w5 hb5 hk5; have Hb5 := Lib.hid hb5; have Hk5 := Lib.hid hk5; clear hb5 hk5)
             have K5 := Lib.hid (((Kept.refl [] wr).alloc _).trans Hk5.out (fun i hi => .inr (by simp at hi; omega)))
             have hx5 := Hb5.out.cell)
          | (go_at_call 52
             refine (AP.out _ K5.out).mono ?_
             rintro e w6 ⟨rfl, hs6, hk6, hb6⟩
             rw [HE.out]
             have S6 := Lib.hid hs6
             clear hs6 hk6 hb6))
        go_ret2
        exact ⟨S, e0, (by rw [Hl.out]; exact hres.out), S6.out.kept, .inl ⟨HN.out.1, rfl⟩⟩
    · obtain rfl : m = j := by omega
      have i1 : ¬ (m : Int) < (m : Int) := by omega
      have hres := Lib.hid (show runS newS l = (S, 0) by
        rw [Run.out, List.drop_of_length_le (by rw [L2.out.1]; exact Nat.le_refl _)]; rfl)
      have SD := Lib.hid (St.out.b.go ((Kept.refl [] wr).drew))
      have hx := Bx.out.cell
      go_wp2
      go_region_held3 (fun w' => ∀ o, w'.cell? ⟨w.heap.size, o, none⟩ = (#[.int .i64 V.gen, .slice A1 m1 c1, .slice A2 m2 c2, .slice A3 m3 c3] : Array Value)[o]?)
        (exact (Blk.kept (S := []) Bx.out (by repeat (first | exact Kept.refl _ _ | exact K8.out | exact K7.out | apply Kept.alloc | apply Kept.drew)) (by simp)).cell)
        (first
          | (go_at_call 55
             refine (View_any SD.out Ok.out).mono ?_
             rintro e w7 ⟨V', B1, n1, d1, B2, n2, d2, B3, n3, d3, rfl, hv, h3⟩
             have HV := Lib.hid hv
             have K7 := Lib.hid (((Kept.refl [] wr).drew).trans (LV.kept h3.bk) (by simp))
             obtain ⟨G7, hva, _⟩ := Vw3.va h3
             have VA7 := Lib.hid hva
             have VV7 := Lib.hid (H.out.go (St.out.kept.trans K7.out (by simp)))
             have X7 := Lib.hid (Bx.out.kept K7.out (by simp))
             have hx7 := X7.out.cell
             clear hv h3 hva)
          | (go_at_call 54
             refine (StSame_any _ V' V VA7.out VV7.out).mono ?_
             rintro e w8 ⟨rfl, hk8⟩
             have K8 := Lib.hid (K7.out.trans hk8 (by simp))
             have X8 := Lib.hid (Bx.out.kept K8.out (by simp))
             have hx8 := X8.out.cell
             obtain ⟨b, hsv⟩ : ∃ b, sameV V' V = b := ⟨_, rfl⟩
             rw [hsv]
             have HSV := Lib.hid hsv
             clear hk8 hsv))
      all_goals
        cases b
        · go_wp2
          go_ret2
          exact ⟨S, 0, (by rw [Hl.out]; exact hres.out), St.out.kept.trans K8.out (by simp), .inr ⟨rfl, V', HV.out, .inr ⟨HSV.out, rfl⟩⟩⟩
        · go_wp2
          go_ret2
          exact ⟨S, 0, (by rw [Hl.out]; exact hres.out), St.out.kept.trans K8.out (by simp), .inr ⟨rfl, V', HV.out, .inl ⟨HSV.out, p, rfl, St.out.b.go K8.out⟩⟩⟩
end
section
open Go.RowKit Go.ChangeShapes Go.WideShapes Go.ChangeAt Go.Deep Go.MapKept
theorem view_p {W w : World} {p bd bf : Nat} {S : StD} (h : StP W w p bd bf S) (ok : OkS S) : Calls Tryz.prog 55 #[.pointer (some ⟨p, 0, none⟩)] w fun e w' => ∃ V A1 m1 c1 A2 m2 c2 A3 m3 c3 G, e = .returned (.agg #[.int .i64 V.gen, .slice A1 m1 c1, .slice A2 m2 c2, .slice A3 m3 c3]) ∧ IsView S V ∧ VA w' G A1 m1 c1 A2 m2 c2 A3 m3 c3 V ∧ (∀ k ∈ G, w.heap.size ≤ k) ∧ Kept [] w w' := by
  refine (View_any h.b ok).mono ?_
  rintro e w1 ⟨V, A1, m1, c1, A2, m2, c2, A3, m3, c3, rfl, hv, h3⟩
  obtain ⟨G, hva, hg⟩ := Vw3.va h3
  exact ⟨V, A1, m1, c1, A2, m2, c2, A3, m3, c3, G, rfl, hv, hva, hg, LV.kept h3.bk⟩
set_option maxRecDepth 100000 in
theorem RecArr.one {w : World} {g : Nat} {r : RecD} {G : List Nat} {A : Option Addr} {m c : Nat} (hb : Blk w g 43 #[.int .i64 r.kind, .int .u32 (r.tup.src.toNat : Nat), .int .u32 (r.tup.dst.toNat : Nat), .int .i64 r.tup.proto, .int .i64 r.tup.sport, .int .i64 r.tup.dport, .int .i64 r.fb, .int .i64 r.fg, .int .i64 r.fs, .int .i64 r.gen, .slice A m c, .int .i64 r.back, .int .i64 r.until_, .int .i64 r.count]) (hr : BkArr w G (.slice A m c) r.backs) : RecArr w (g :: G) (.slice (some ⟨g, 0, none⟩) 1 1) [r] := by
  refine ⟨_, 1, 1, rfl, rfl, by omega, by unfold maxLen; omega, by simp, fun _ => ⟨g, 0, rfl, by simp, hb.lt, fun i a hi => ⟨[.int .i64 a.kind, .int .u32 (a.tup.src.toNat : Nat), .int .u32 (a.tup.dst.toNat : Nat), .int .i64 a.tup.proto, .int .i64 a.tup.sport, .int .i64 a.tup.dport, .int .i64 a.fb, .int .i64 a.fg, .int .i64 a.fs, .int .i64 a.gen, .slice A m c, .int .i64 a.back, .int .i64 a.until_, .int .i64 a.count], rfl, ⟨A, m, c, rfl, ?_⟩, fun j hj => ?_⟩⟩⟩
  · cases i with
    | zero => simp at hi; subst hi; exact BkArr.mono hr (fun k hk => List.mem_cons_of_mem _ hk)
    | succ i => simp at hi
  · cases i with
    | zero =>
      simp at hi; subst hi
      rw [Nat.zero_mul, Nat.zero_add, Nat.zero_add, hb.cell j]
      simp
    | succ i => simp at hi
theorem IsView.flow {S : StD} (ok : OkS S) {V : VwD} (h : IsView S V) {f : FlD} (hf : f ∈ V.flows) : getM S.flows f.tup = some f := by
  obtain ⟨p, hp, rfl⟩ := List.mem_map.1 (h.fp.mem_iff.1 hf)
  rw [ok.own p hp]
  exact getM_of_mem ok.nf (by cases p; exact hp)
end
section
open Go.RowKit Go.ChangeShapes Go.WideShapes Go.ChangeAt Go.Deep Go.MapKept
theorem orI_ne {a : Int} {l : List Int} (h : a ≠ 0) : orI (a :: l) = a := if_pos h
theorem orI_eq {a : Int} {l : List Int} (h : a = 0) : orI (a :: l) = orI l := if_neg (fun hn => hn h)
theorem cmp_ne {a b : Int} (h : a ≠ b) : cmpI a b ≠ 0 := fun e => h (cmpI_zero.1 e)
theorem dec_lt {a b : Int} : decide (cmpI a b < 0) = decide (a < b) := by rw [decide_eq_decide]; exact cmpI_lt
set_option maxHeartbeats 3200000 in
theorem rLessT_any (w : World) (a b : TupD) : Calls Tryz.prog 124 #[.agg #[.int .u32 (a.src.toNat : Nat), .int .u32 (a.dst.toNat : Nat), .int .i64 a.proto, .int .i64 a.sport, .int .i64 a.dport], .agg #[.int .u32 (b.src.toNat : Nat), .int .u32 (b.dst.toNat : Nat), .int .i64 b.proto, .int .i64 b.sport, .int .i64 b.dport]] w fun e w' => e = .returned (.bool (lessT a b)) ∧ Kept [] w w' := by
  have HL := Lib.hid (show lessT a b = decide (orI [cmpI (a.src.toNat : Nat) (b.src.toNat : Nat), cmpI (a.dst.toNat : Nat) (b.dst.toNat : Nat), cmpI a.proto b.proto, cmpI a.sport b.sport, cmpI a.dport b.dport] < 0) from rfl)
  have K := Lib.hid (show Kept [] w ((w.alloc (.cells #[.int .u32 (a.src.toNat : Nat), .int .u32 (a.dst.toNat : Nat), .int .i64 a.proto, .int .i64 a.sport, .int .i64 a.dport] 39)).alloc (.cells #[.int .u32 (b.src.toNat : Nat), .int .u32 (b.dst.toNat : Nat), .int .i64 b.proto, .int .i64 b.sport, .int .i64 b.dport] 39)) from by (repeat (first | exact Kept.refl _ _ | apply Kept.alloc | apply Kept.drew)))
  by_cases h0 : (a.src.toNat : Int) = (b.src.toNat : Int)
  · by_cases h1 : (a.dst.toNat : Int) = (b.dst.toNat : Int)
    · by_cases h2 : a.proto = b.proto
      · by_cases h3 : a.sport = b.sport
        · have hres := Lib.hid (show lessT a b = decide (a.dport < b.dport) by rw [HL.out, orI_eq (cmpI_zero.2 h0), orI_eq (cmpI_zero.2 h1), orI_eq (cmpI_zero.2 h2), orI_eq (cmpI_zero.2 h3), show ∀ c : Int, orI [c] = c from fun c => (by by_cases hc : c = 0 <;> simp [orI, hc]), dec_lt])
          have b0 : ((a.src.toNat : Int) == (b.src.toNat : Int)) = true := by simp [h0]
          have n0 : ((a.src.toNat : Int) != (b.src.toNat : Int)) = false := by simp [h0]
          have b1 : ((a.dst.toNat : Int) == (b.dst.toNat : Int)) = true := by simp [h1]
          have n1 : ((a.dst.toNat : Int) != (b.dst.toNat : Int)) = false := by simp [h1]
          have b2 : (a.proto == b.proto) = true := by simp [h2]
          have n2 : (a.proto != b.proto) = false := by simp [h2]
          have b3 : (a.sport == b.sport) = true := by simp [h3]
          have n3 : (a.sport != b.sport) = false := by simp [h3]
          clear HL h0 h1 h2 h3
          go_enter Tryz.func124, Tryz.ntmps124
          go_wp2
          go_ret
          exact ⟨ret_bool hres.out.symm, K.out⟩
        · have hres := Lib.hid (show lessT a b = decide (a.sport < b.sport) by rw [HL.out, orI_eq (cmpI_zero.2 h0), orI_eq (cmpI_zero.2 h1), orI_eq (cmpI_zero.2 h2), orI_ne (cmp_ne h3), dec_lt])
          have b0 : ((a.src.toNat : Int) == (b.src.toNat : Int)) = true := by simp [h0]
          have n0 : ((a.src.toNat : Int) != (b.src.toNat : Int)) = false := by simp [h0]
          have b1 : ((a.dst.toNat : Int) == (b.dst.toNat : Int)) = true := by simp [h1]
          have n1 : ((a.dst.toNat : Int) != (b.dst.toNat : Int)) = false := by simp [h1]
          have b2 : (a.proto == b.proto) = true := by simp [h2]
          have n2 : (a.proto != b.proto) = false := by simp [h2]
          have b3 : (a.sport == b.sport) = false := by simpa using h3
          have n3 : (a.sport != b.sport) = true := by simpa using h3
          clear HL h0 h1 h2 h3
          go_enter Tryz.func124, Tryz.ntmps124
          go_wp2
          go_ret
          exact ⟨ret_bool hres.out.symm, K.out⟩
      · have hres := Lib.hid (show lessT a b = decide (a.proto < b.proto) by rw [HL.out, orI_eq (cmpI_zero.2 h0), orI_eq (cmpI_zero.2 h1), orI_ne (cmp_ne h2), dec_lt])
        have b0 : ((a.src.toNat : Int) == (b.src.toNat : Int)) = true := by simp [h0]
        have n0 : ((a.src.toNat : Int) != (b.src.toNat : Int)) = false := by simp [h0]
        have b1 : ((a.dst.toNat : Int) == (b.dst.toNat : Int)) = true := by simp [h1]
        have n1 : ((a.dst.toNat : Int) != (b.dst.toNat : Int)) = false := by simp [h1]
        have b2 : (a.proto == b.proto) = false := by simpa using h2
        have n2 : (a.proto != b.proto) = true := by simpa using h2
        clear HL h0 h1 h2
        go_enter Tryz.func124, Tryz.ntmps124
        go_wp2
        go_ret
        exact ⟨ret_bool hres.out.symm, K.out⟩
    · have hres := Lib.hid (show lessT a b = decide (a.dst.toNat < b.dst.toNat) by rw [HL.out, orI_eq (cmpI_zero.2 h0), orI_ne (cmp_ne h1), dec_lt]; exact decide_eq_decide.2 (by omega))
      have b0 : ((a.src.toNat : Int) == (b.src.toNat : Int)) = true := by simp [h0]
      have n0 : ((a.src.toNat : Int) != (b.src.toNat : Int)) = false := by simp [h0]
      have b1 : ((a.dst.toNat : Int) == (b.dst.toNat : Int)) = false := by simpa using h1
      have n1 : ((a.dst.toNat : Int) != (b.dst.toNat : Int)) = true := by simpa using h1
      clear HL h0 h1
      go_enter Tryz.func124, Tryz.ntmps124
      go_wp2
      go_ret
      exact ⟨ret_bool hres.out.symm, K.out⟩
  · have hres := Lib.hid (show lessT a b = decide (a.src.toNat < b.src.toNat) by rw [HL.out, orI_ne (cmp_ne h0), dec_lt]; exact decide_eq_decide.2 (by omega))
    have b0 : ((a.src.toNat : Int) == (b.src.toNat : Int)) = false := by simpa using h0
    have n0 : ((a.src.toNat : Int) != (b.src.toNat : Int)) = true := by simpa using h0
    clear HL h0
    go_enter Tryz.func124, Tryz.ntmps124
    go_wp2
    go_ret
    exact ⟨ret_bool hres.out.symm, K.out⟩
theorem rTime_any (w : World) (n : Int) : Calls Tryz.prog 18 #[.int .i64 n] w fun e w' => e = .returned (.bool (timeB n)) ∧ w = w' := by
  go_enter Tryz.func18, Tryz.ntmps18
  go_wp2
  all_goals
    go_ret
    refine ⟨ret_bool ?_, rfl⟩
    rw [Bool.eq_iff_iff]; simp [timeB, inB]; omega
def mayFl (f : FlD) : Bool := mayT f.tup && (inB f.back 65535 && (inB f.gen 1000000 && timeB f.seen))
set_option maxHeartbeats 1600000 in
theorem MayFlow_any (w : World) (f : FlD) : Calls Tryz.prog 86 #[.agg #[.int .u32 (f.tup.src.toNat : Nat), .int .u32 (f.tup.dst.toNat : Nat), .int .i64 f.tup.proto, .int .i64 f.tup.sport, .int .i64 f.tup.dport, .int .i64 f.back, .int .i64 f.gen, .int .i64 f.seen]] w fun e w' => e = .returned (.bool (mayFl f)) ∧ Kept [] w w' := by
  have X0 := Lib.hid (Blk.new w 41 #[.int .u32 (f.tup.src.toNat : Nat), .int .u32 (f.tup.dst.toNat : Nat), .int .i64 f.tup.proto, .int .i64 f.tup.sport, .int .i64 f.tup.dport, .int .i64 f.back, .int .i64 f.gen, .int .i64 f.seen])
  have K0 := Lib.hid ((Kept.refl [] w).alloc (.cells #[.int .u32 (f.tup.src.toNat : Nat), .int .u32 (f.tup.dst.toNat : Nat), .int .i64 f.tup.proto, .int .i64 f.tup.sport, .int .i64 f.tup.dport, .int .i64 f.back, .int .i64 f.gen, .int .i64 f.seen] 41))
  have HM := Lib.hid (show mayFl f = (mayT f.tup && (inB f.back 65535 && (inB f.gen 1000000 && timeB f.seen))) from rfl)
  obtain ⟨bm, hbm⟩ : ∃ b, mayT f.tup = b := ⟨_, rfl⟩
  obtain ⟨bt, hbt⟩ : ∃ b, timeB f.seen = b := ⟨_, rfl⟩
  rw [hbm, hbt] at HM
  have HBM := Lib.hid hbm
  have HBT := Lib.hid hbt
  clear hbm hbt
  go_enter Tryz.func86, Tryz.ntmps86
  cases bm
  · have hres := Lib.hid (show mayFl f = false by rw [HM.out]; rfl)
    go_wp2_with (go_at_call 65
                 refine (rtMay_any _ f.tup).mono ?_
                 rintro e w1 ⟨rfl, hk1⟩
                 rw [HBM.out]
                 have K1 := Lib.hid (K0.out.trans hk1 (by simp))
                 clear hk1)
    go_ret
    exact ⟨ret_bool hres.out.symm, K1.out⟩
  · by_cases hin : (0 ≤ f.back ∧ f.back ≤ 65535) ∧ (0 ≤ f.gen ∧ f.gen ≤ 1000000)
    · obtain ⟨⟨h1, h2⟩, h3, h4⟩ := hin
      have hres := Lib.hid (show mayFl f = bt by rw [HM.out]; unfold inB; rw [decide_eq_true h1, decide_eq_true h2, decide_eq_true h3, decide_eq_true h4]; rfl)
      go_wp2_with (first
        | (go_at_call 65
           refine (rtMay_any _ f.tup).mono ?_
           rintro e w1 ⟨rfl, hk1⟩
           rw [HBM.out]
           have K1 := Lib.hid (K0.out.trans hk1 (by simp))
           have hx1 := (X0.out.kept hk1 (by simp)).cell
           clear hk1)
        | (go_at_call 18
           refine (rTime_any _ f.seen).mono ?_
           rintro e w2 ⟨rfl, rfl⟩
           rw [HBT.out]))
      go_ret
      exact ⟨ret_bool hres.out.symm, K1.out⟩
    · have hres := Lib.hid (show mayFl f = false by
        rw [HM.out]
        cases hm : (true && (inB f.back 65535 && (inB f.gen 1000000 && bt)))
        · rfl
        · simp [inB] at hm
          exact absurd ⟨⟨hm.1.1, hm.1.2⟩, hm.2.1.1, hm.2.1.2⟩ hin)
      by_cases h1 : 0 ≤ f.back
      · by_cases h2 : f.back ≤ 65535
        · by_cases h3 : 0 ≤ f.gen
          · have h4 : ¬ f.gen ≤ 1000000 := fun h4 => hin ⟨⟨h1, h2⟩, h3, h4⟩
            go_wp2_with (go_at_call 65
                         refine (rtMay_any _ f.tup).mono ?_
                         rintro e w1 ⟨rfl, hk1⟩
                         rw [HBM.out]
                         have K1 := Lib.hid (K0.out.trans hk1 (by simp))
                         have hx1 := (X0.out.kept hk1 (by simp)).cell
                         clear hk1)
            go_ret
            exact ⟨ret_bool hres.out.symm, K1.out⟩
          · clear hin
            go_wp2_with (go_at_call 65
                         refine (rtMay_any _ f.tup).mono ?_
                         rintro e w1 ⟨rfl, hk1⟩
                         rw [HBM.out]
                         have K1 := Lib.hid (K0.out.trans hk1 (by simp))
                         have hx1 := (X0.out.kept hk1 (by simp)).cell
                         clear hk1)
            go_ret
            exact ⟨ret_bool hres.out.symm, K1.out⟩
        · clear hin
          go_wp2_with (go_at_call 65
                       refine (rtMay_any _ f.tup).mono ?_
                       rintro e w1 ⟨rfl, hk1⟩
                       rw [HBM.out]
                       have K1 := Lib.hid (K0.out.trans hk1 (by simp))
                       have hx1 := (X0.out.kept hk1 (by simp)).cell
                       clear hk1)
          go_ret
          exact ⟨ret_bool hres.out.symm, K1.out⟩
      · clear hin
        go_wp2_with (go_at_call 65
                     refine (rtMay_any _ f.tup).mono ?_
                     rintro e w1 ⟨rfl, hk1⟩
                     rw [HBM.out]
                     have K1 := Lib.hid (K0.out.trans hk1 (by simp))
                     have hx1 := (X0.out.kept hk1 (by simp)).cell
                     clear hk1)
        go_ret
        exact ⟨ret_bool hres.out.symm, K1.out⟩
def atI (l : List FlD) (t : TupD) : Int := if (l.takeWhile fun x => !decide (x.tup = t)).length < l.length then ((l.takeWhile fun x => !decide (x.tup = t)).length : Nat) else -1
theorem tw_hit {α : Type} {p : α → Bool} {l : List α} {j : Nat} (hj : j < l.length) (h1 : ∀ x ∈ l.take j, p x = true) (h2 : p l[j] = false) : l.takeWhile p = l.take j := by
  conv => lhs; rw [← List.take_append_drop j l]
  rw [List.takeWhile_append_of_pos h1, ← List.getElem_cons_drop (h := hj), List.takeWhile_cons_of_neg (by rw [h2]; simp), List.append_nil]
theorem tw_all {α : Type} {p : α → Bool} {l : List α} (h : ∀ x ∈ l, p x = true) : l.takeWhile p = l := by
  have := List.takeWhile_append_of_pos (p := p) (l₁ := l) (l₂ := []) h
  simpa using this
theorem at_hit {l : List FlD} {t : TupD} {j : Nat} (hj : j < l.length) (h1 : ∀ x ∈ l.take j, x.tup ≠ t) (h2 : l[j].tup = t) : atI l t = (j : Nat) := by
  have e := tw_hit (p := fun x : FlD => !decide (x.tup = t)) hj (fun x hx => by simp [h1 x hx]) (by simp [h2])
  unfold atI
  rw [e, List.length_take, if_pos (by omega)]
  congr 1
  omega
theorem at_none {l : List FlD} {t : TupD} (h : ∀ x ∈ l, x.tup ≠ t) : atI l t = -1 := by
  have e := tw_all (p := fun x : FlD => !decide (x.tup = t)) (l := l) (fun x hx => by simp [h x hx])
  unfold atI
  rw [e, if_neg (by omega)]
set_option maxHeartbeats 1600000 in
theorem at_any (w : World) {q : Nat} {A : Option Addr} {m c : Nat} {x y : Int} {G : List Nat} (l : List FlD) (t : TupD) (hq : Blk w q 95 #[.slice A m c, .int .i64 x, .int .i64 y]) (h : FlArr w G (.slice A m c) l) :
    Calls Tryz.prog 87 #[.pointer (some ⟨q, 0, none⟩), .agg #[.int .u32 (t.src.toNat : Nat), .int .u32 (t.dst.toNat : Nat), .int .i64 t.proto, .int .i64 t.sport, .int .i64 t.dport]] w fun e w' => e = .returned (.int .i64 (atI l t)) ∧ Kept [] w w' := by
  obtain ⟨a1, a2, a3, a4⟩ := h.len
  have H := Lib.hid h
  have A1 := Lib.hid a1
  have X0 := Lib.hid (Blk.new w 39 #[.int .u32 (t.src.toNat : Nat), .int .u32 (t.dst.toNat : Nat), .int .i64 t.proto, .int .i64 t.sport, .int .i64 t.dport])
  have K0 := Lib.hid ((Kept.refl [] w).alloc (.cells #[.int .u32 (t.src.toNat : Nat), .int .u32 (t.dst.toNat : Nat), .int .i64 t.proto, .int .i64 t.sport, .int .i64 t.dport] 39))
  have hq0 := (hq.alloc (.cells #[.int .u32 (t.src.toNat : Nat), .int .u32 (t.dst.toNat : Nat), .int .i64 t.proto, .int .i64 t.sport, .int .i64 t.dport] 39)).cell
  have hqlt := hq.lt
  clear h a1 a4 hq
  unfold maxLen at a3
  go_enter Tryz.func87, Tryz.ntmps87
  go_wp2
  go_loopg [12] m (fun gg i wr => ∃ j : Nat, j ≤ m ∧ gg = m - j ∧ i = .int .i64 j ∧ (∀ x ∈ l.take j, x.tup ≠ t) ∧ Kept [] w wr ∧ Blk wr w.heap.size 39 #[.int .u32 (t.src.toNat : Nat), .int .u32 (t.dst.toNat : Nat), .int .i64 t.proto, .int .i64 t.sport, .int .i64 t.dport])
  case atStart => exact ⟨0, by omega, by omega, rfl, by simp, K0.out, X0.out⟩
  case round =>
    obtain ⟨j, hj, rfl, rfl, hs, hkw, hbx⟩ := hrel
    have Hs := Lib.hid hs
    have Hkw := Lib.hid hkw
    have Bx := Lib.hid hbx
    clear hs hkw hbx
    by_cases hlt : j < m
    · have hkl : j < l.length := by rw [A1.out]; exact hlt
      obtain ⟨g, o, rfl, hg, hgG, c0, c1, c2, c3, c4, c5, c6, c7⟩ := (FlArr.kept H.out Hkw.out (by simp)).at (k := j) hkl
      have Htk := Lib.hid (show l.take (j + 1) = l.take j ++ [l[j]] by rw [List.take_add_one, List.getElem?_eq_getElem hkl]; rfl)
      have Hhit := Lib.hid (fun h2 => at_hit hkl Hs.out h2)
      generalize l[j]'hkl = f at *
      have i0 : (0 : Int) ≤ (j : Int) := by omega
      have i1 : (j : Int) < (m : Int) := by omega
      have iw : IntKind.i64.wrap ((j : Int) + 1) = (j : Int) + 1 := IntWalk.i64_in _ (by omega)
      have hqt := eqT_run f.tup t
      have hgt : Tryz.prog.eqGuardType Tryz.prog.depth 39 = false := by kernel_rfl
      by_cases hts : sameT f.tup t = true
      all_goals
        first
          | (rw [hts] at hqt; have HT := Lib.hid (sameT_iff.1 hts))
          | (have hts' : sameT f.tup t = false := by simpa using hts
             rw [hts'] at hqt
             have HT := Lib.hid (fun e => hts (sameT_iff.2 e))
             clear hts')
        clear hts
        go_wp2_with (((with_reducible show wpList _ _ _ ({ dst := none, op := Op.store 41 (.tmp 6) (.tmp 16), type := _, pos := _, after := _, guard := _ } :: _) _ _); refine wpList_put (t := 41) rfl 41 (.tmp 6) (.tmp 16) rfl _ (by rfl) (by rfl) (by (repeat (first | (apply Blk.new'; simp; done) | apply Blk.alloc | apply Blk.drew))) (by rfl) (by kernel_rfl) (by simp [Value.oneCell']) ?_; intro w5 hb5 hk5; have Hb5 := Lib.hid hb5; have Hk5 := Lib.hid hk5; clear hb5 hk5)
                     have K5 := Lib.hid (Hkw.out.trans (((Kept.refl [] wr).alloc _).trans Hk5.out (fun i hi => .inr (by simp at hi; omega))) (by simp))
                     have B5 := Lib.hid (Bx.out.kept (((Kept.refl [] wr).alloc _).trans Hk5.out (fun i hi => .inr (by simp at hi; omega))) (by simp))
                     have hx5 := Hb5.out.cell
                     have hy5 := B5.out.cell)
      · go_ret
        exact ⟨by rw [Hhit.out HT.out]; rfl, K5.out⟩
      · go_roundg (m - (j + 1))
        case measure => omega
        case rel =>
          refine ⟨j + 1, by omega, rfl, by go_num, fun x hx => ?_, K5.out, B5.out⟩
          rw [Htk.out, List.mem_append] at hx
          rcases hx with hx | hx
          · exact Hs.out x hx
          · rw [List.mem_singleton] at hx
            rw [hx]
            exact HT.out
    · obtain rfl : m = j := by omega
      have i1 : ¬ (m : Int) < (m : Int) := by omega
      have hres := Lib.hid (show atI l t = -1 from at_none (by
        have := Hs.out
        rwa [List.take_of_length_le (by rw [A1.out]; exact Nat.le_refl _)] at this))
      go_wp2
      go_ret
      exact ⟨by rw [hres.out]; rfl, Hkw.out⟩
end
section
open Go.RowKit Go.ChangeShapes Go.WideShapes Go.ChangeAt Go.Deep Go.MapKept
theorem arr_take {α : Type} {w : World} {G : List Nat} {n : Nat} {Dec : World → List Value → α → Prop} {A : Option Addr} {m c : Nat} {l : List α} (h : ArrOf w G n Dec (.slice A m c) l) {k : Nat} (hk : k ≤ m) : ArrOf w G n Dec (.slice A k c) (l.take k) := by
  obtain ⟨A', m', c', e, h1, h2, h3, h4, h5⟩ := h
  injection e with e1 e2 e3
  subst e1 e2 e3
  refine ⟨A, k, c, rfl, by rw [List.length_take]; omega, by omega, h3, fun hn => ?_, fun hne => ?_⟩
  · have := h4 hn
    omega
  · obtain ⟨g, o, e, hm, hlt, hc⟩ := h5 (fun e => hne (by rw [e]; simp))
    refine ⟨g, o, e, hm, hlt, fun i a hi => hc i a ?_⟩
    rw [List.getElem?_take] at hi
    split at hi
    · exact hi
    · cases hi
theorem arr_drop {α : Type} {w : World} {G : List Nat} {n : Nat} {Dec : World → List Value → α → Prop} {g o : Nat} {m c : Nat} {l : List α} (h : ArrOf w G n Dec (.slice (some ⟨g, o, none⟩) m c) l) {k : Nat} (hk : k ≤ m) : ArrOf w G n Dec (.slice (some ⟨g, o + k * n, none⟩) (m - k) (c - k)) (l.drop k) := by
  obtain ⟨A', m', c', e, h1, h2, h3, h4, h5⟩ := h
  injection e with e1 e2 e3
  subst e1 e2 e3
  refine ⟨_, m - k, c - k, rfl, by rw [List.length_drop]; omega, by omega, by omega, by simp, fun hne => ?_⟩
  obtain ⟨g', o', e, hm, hlt, hc⟩ := h5 (fun e => hne (by rw [e]; simp))
  injection e with e
  injection e with e1 e2 e3
  subst e1 e2
  refine ⟨g, o + k * n, rfl, hm, hlt, fun i a hi => ?_⟩
  rw [List.getElem?_drop] at hi
  obtain ⟨cs, hl, hd, hcell⟩ := hc (k + i) a hi
  refine ⟨cs, hl, hd, fun j hj => ?_⟩
  have := hcell j hj
  rw [Nat.add_mul] at this
  rw [show o + k * n + (i * n + j) = o + (k * n + i * n + j) by omega]
  exact this
theorem arr_none {α : Type} (w : World) (G : List Nat) (n : Nat) (Dec : World → List Value → α → Prop) (c : Nat) (hc : c = 0) : ArrOf w G n Dec (.slice none 0 c) ([] : List α) := by
  subst hc
  exact ⟨none, 0, 0, rfl, rfl, by omega, by unfold maxLen; omega, fun _ => ⟨rfl, rfl⟩, fun h => absurd rfl h⟩
theorem arr_zero {α : Type} (w : World) (G : List Nat) (n : Nat) (Dec : World → List Value → α → Prop) (a : Addr) (c : Nat) (hc : c ≤ maxLen) : ArrOf w G n Dec (.slice (some a) 0 c) ([] : List α) :=
  ⟨some a, 0, c, rfl, rfl, by omega, hc, by simp, fun h => absurd rfl h⟩
theorem arr_blk {α : Type} {n : Nat} {Dec : World → List Nat → List Value → α → Prop} {w : World} {g : Nat} {t : TypeId} {cs : Array Value} {a : α} (hb : Blk w g t cs) (hn : cs.size = n) (hd : Dec w [g] cs.toList a) : ArrOf w [g] n (fun w => Dec w [g]) (.slice (some ⟨g, 0, none⟩) 1 1) [a] := by
  refine ⟨_, 1, 1, rfl, rfl, by omega, by unfold maxLen; omega, by simp, fun _ => ⟨g, 0, rfl, by simp, hb.lt, fun i x hi => ⟨cs.toList, by simpa using hn, ?_, fun j hj => ?_⟩⟩⟩
  · cases i with
    | zero => simp at hi; subst hi; exact hd
    | succ i => simp at hi
  · cases i with
    | zero => rw [Nat.zero_mul, Nat.zero_add, Nat.zero_add, hb.cell j]; simp
    | succ i => simp at hi
theorem step_lvs {α : Type} {n bytes : Nat} {e t : TypeId} {Dec : World → List Nat → List Value → α → Prop} (D : DecOk n Dec) (E : Elem Tryz.prog t e n bytes) (hD : ∀ {w w' : World} {G G' : List Nat} {cs : List Value} {a : α}, Dec w G cs a → Dec w' G' cs a) (hby : bytes ≤ 1000)
    {ops : Array Oper} {o : Oper} {a : Act} {K : Act → World → Prop} {Q : Exit → Act → World → Prop} {E0 : Prop} {w0 : World} (hgd : o.guard = none) (s x : Operand)
    (ho : o.op = .call { callee := .builtin .append, args := #[s, x], argTypes := #[t, t] }) {W : World} {sl : Value} {l l2 : List α} {G : List Nat} {A : Option Addr} {m c : Nat}
    (hs : a.eval s = sl) (hN : LV Dec e n W w0 sl l) (hx : a.eval x = .slice A m c) (hb : ArrOf w0 G n (fun w => Dec w G) (.slice A m c) l2) (hl : l.length + l2.length ≤ 100000)
    (h : ∀ A' m' c' w', LV Dec e n W w' (.slice A' m' c') (l ++ l2) → Kept (rowOf sl) w0 w' → (∀ k ∈ rowOf sl, W.heap.size ≤ k ∧ k < w0.heap.size) → K (a.put o.dst (.slice A' m' c')) w') : if Region.wanted o (yielded ops a.tmps) = true then Oper.wp Tryz.prog o a w0 K Q else E0 := by
  obtain ⟨css, G1, h1⟩ := hN
  obtain ⟨A0, m0, c0, cs2, e0, l0, _, _, _, hd2, hlen2, hr2⟩ := ArrOf.decs hb
  injection e0 with e1 e2 e3
  subst e1 e2 e3
  have hD2 : Decs Dec w0 [] cs2 l2 := ⟨hd2.1, fun i cs b h1 h2 => hD (hd2.2 i cs b h1 h2)⟩
  have hfl : cs2.flatten.length = m * n := by rw [flat_len hlen2, hd2.1, l0]
  have hmul : (l.length + m) * bytes ≤ 100000 * 1000 := Nat.mul_le_mul (by omega) hby
  refine step_app _ hgd s x t ho E hs h1.own hx hr2 hfl (hD2.ones D) (by unfold maxLen; omega) (by omega) (fun v' w' ho' hk hr' => ?_)
  have hx := LVx.app D h1 (Kept.refl [] w0) hD2 (by simp) ho' (by rw [List.length_append, l0]) (by simp) hk hr'
  obtain ⟨A', m', c', rfl⟩ := Own.form' ho'
  exact h A' m' c' w' ⟨_, _, hx⟩ hk (fun k hk => ⟨h1.new k hk, h1.own.lt k hk⟩)
def restF (f : FlD) : List FlD → List FlD
  | [] => []
  | x :: r => if x.tup = f.tup then r else x :: r
def putFl (l : List FlD) (f : FlD) : List FlD := (l.takeWhile fun x => lessT x.tup f.tup) ++ ([f] ++ restF f (l.dropWhile fun x => lessT x.tup f.tup))
theorem dw_hit {α : Type} {p : α → Bool} {l : List α} {j : Nat} (hj : j < l.length) (h1 : ∀ x ∈ l.take j, p x = true) (h2 : p l[j] = false) : l.dropWhile p = l.drop j := by
  conv => lhs; rw [← List.take_append_drop j l]
  rw [List.dropWhile_append_of_pos h1, ← List.getElem_cons_drop (h := hj), List.dropWhile_cons_of_neg (by rw [h2]; simp)]
theorem dw_all {α : Type} {p : α → Bool} {l : List α} (h : ∀ x ∈ l, p x = true) : l.dropWhile p = [] := by
  have := List.dropWhile_append_of_pos (p := p) (l₁ := l) (l₂ := []) h
  simpa using this
theorem put_same {l : List FlD} {f : FlD} {j : Nat} (hj : j < l.length) (h1 : ∀ x ∈ l.take j, lessT x.tup f.tup = true) (h2 : lessT l[j].tup f.tup = false) (h3 : l[j].tup = f.tup) : putFl l f = (l.take j ++ [f]) ++ l.drop (j + 1) := by
  unfold putFl
  rw [tw_hit hj h1 h2, dw_hit hj h1 h2, ← List.getElem_cons_drop (h := hj), List.append_assoc]
  show _ ++ ([f] ++ if l[j].tup = f.tup then _ else _) = _
  rw [if_pos h3]
theorem put_other {l : List FlD} {f : FlD} {j : Nat} (hj : j < l.length) (h1 : ∀ x ∈ l.take j, lessT x.tup f.tup = true) (h2 : lessT l[j].tup f.tup = false) (h3 : l[j].tup ≠ f.tup) : putFl l f = (l.take j ++ [f]) ++ l.drop j := by
  unfold putFl
  rw [tw_hit hj h1 h2, dw_hit hj h1 h2, ← List.getElem_cons_drop (h := hj), List.append_assoc]
  show _ ++ ([f] ++ if l[j].tup = f.tup then _ else _) = _
  rw [if_neg h3]
theorem put_end {l : List FlD} {f : FlD} (h1 : ∀ x ∈ l, lessT x.tup f.tup = true) : putFl l f = (l ++ [f]) ++ [] := by
  unfold putFl
  rw [tw_all h1, dw_all h1, List.append_assoc]
  rfl
end
end Go.Proofs.YtkacghjglicjiaaGreat
