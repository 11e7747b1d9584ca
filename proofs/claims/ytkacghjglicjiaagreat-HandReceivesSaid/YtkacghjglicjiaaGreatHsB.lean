/-
  A state sent: the program's stream, the document's.
-/
import Derived.Test.YtkacghjglicjiaaGreatRecP
import Derived.Test.YtkacghjglicjiaaGreatSvB
import Derived.Test.YtkacghjglicjiaaGreatHsA
import Derived.Test.YtkacghjglicjiaaGreatNb
import Derived.Test.YtkacghjglicjiaaGreatRecT
namespace Go.Proofs.YtkacghjglicjiaaGreat
set_option linter.unusedVariables false
section
open Go.RowKit Go.ChangeShapes Go.WideShapes Go.ChangeAt Go.Deep Go.MapKept
theorem of_no {w w' : World} {V : VwD} {e : Ending} (h : ∃ S e0, runS newS (recsV V) = (S, e0) ∧ Kept [] w w' ∧ ((e0 ≠ 0 ∧ e = .returned (.tuple #[.pointer none, .int .i64 e0])) ∨ (e0 = 0 ∧ ∃ V', IsView S V' ∧ ((sameV V' V = true ∧ ∃ q, e = .returned (.tuple #[.pointer (some ⟨q, 0, none⟩), .int .i64 0]) ∧ StB w w' q S) ∨ (sameV V' V = false ∧ e = .returned (.tuple #[.pointer none, .int .i64 1])))))) (hb : ¬ goodV V) : ∃ e1 : Int, e1 ≠ 0 ∧ e = .returned (.tuple #[.pointer none, .int .i64 e1]) ∧ Kept [] w w' := by
  obtain ⟨S, e1, h1, h2, h3⟩ := h
  rw [good_of h1] at hb
  rcases h3 with ⟨h5, h6⟩ | ⟨h5, V', h6, ⟨h7, h8⟩ | ⟨h7, h8⟩⟩
  · exact ⟨e1, h5, h6, h2⟩
  · exact absurd ⟨h5, V', h6, h7⟩ hb
  · exact ⟨1, by omega, h8, h2⟩
theorem of_yes {w w' : World} {V : VwD} {e : Ending} (h : ∃ S e0, runS newS (recsV V) = (S, e0) ∧ Kept [] w w' ∧ ((e0 ≠ 0 ∧ e = .returned (.tuple #[.pointer none, .int .i64 e0])) ∨ (e0 = 0 ∧ ∃ V', IsView S V' ∧ ((sameV V' V = true ∧ ∃ q, e = .returned (.tuple #[.pointer (some ⟨q, 0, none⟩), .int .i64 0]) ∧ StB w w' q S) ∨ (sameV V' V = false ∧ e = .returned (.tuple #[.pointer none, .int .i64 1])))))) (hb : goodV V) : ∃ q S, e = .returned (.tuple #[.pointer (some ⟨q, 0, none⟩), .int .i64 0]) ∧ StB w w' q S ∧ OkS S ∧ IsView S V := by
  obtain ⟨S, e1, h1, h2, h3⟩ := h
  have ok : OkS S := by have := run_ok OkS.new (recsV V); rw [h1] at this; exact this
  rw [good_of h1] at hb
  obtain ⟨h4, V0, g1, g2⟩ := hb
  obtain rfl := sameV_iff.1 g2
  rcases h3 with ⟨h5, h6⟩ | ⟨h5, V', h6, ⟨h7, q, h8, h9⟩ | ⟨h7, h8⟩⟩
  · exact absurd h4 h5
  · exact ⟨q, S, h8, h9, ok, g1⟩
  · obtain rfl := h6.one ok g1
    rw [g2] at h7
    cases h7
theorem join_le : ∀ l : List FrameD, (joinF l).length ≤ 4112 * l.length
  | [] => by simp [joinF_nil]
  | f :: l => by
    have := join_le l
    have h : (putF f).length ≤ 4112 := by
      rcases putE_cases f with ⟨h0, _, _, _, _, h1⟩ | ⟨_, h1⟩
      · rw [putF_len h0]; omega
      · rw [h1]; simp
    rw [joinF_cons, List.length_append, List.length_cons]
    omega
theorem strm_le (l : List RecD) : (strm l).length ≤ 4112 * l.length := by
  have := join_le (l.map fun r => encF r 3)
  rwa [List.length_map] at this
theorem strm_snoc (l : List RecD) (r : RecD) : strm (l ++ [r]) = strm l ++ putF (encF r 3) := by
  unfold strm
  rw [List.map_append, joinF_app]
  simp [joinF_cons, joinF_nil]
theorem sent_small {V : VwD} (hb : V.backs.length ≤ 1000) (now : Int) : ∀ r ∈ sentR V now, r.backs.length ≤ 1000 := by
  intro r hr
  unfold sentR at hr
  rcases List.mem_append.1 hr with hr | hr
  · rcases List.mem_append.1 hr with hr | hr
    · exact recs_small hb r hr
    · obtain rfl : r = _ := by simpa using hr
      exact Nat.zero_le _
  · obtain rfl : r = _ := by simpa using hr
    exact Nat.zero_le _
def SendPost (w : World) (V : VwD) (now : Int) (e : Ending) (w' : World) : Prop :=
  (goodV V ∧ timeB now = true ∧ ∃ A m c, e = .returned (.tuple #[.slice A m c, .int .i64 0]) ∧ NB w w' (.slice A m c) (strm (sentR V now))) ∨
  (¬ (goodV V ∧ timeB now = true) ∧ e = .returned (.tuple #[.slice none 0 0, .int .i64 1]) ∧ Kept [] w w')
theorem rlen (V : VwD) : (recsV V).length = 1 + V.drains.length + V.flows.length := by simp [recsV]; omega
set_option maxRecDepth 100000 in
set_option maxHeartbeats 16000000 in
theorem Send_any (w : World) {G : List Nat} {A1 A2 A3 : Option Addr} {m1 c1 m2 c2 m3 c3 : Nat} (V : VwD) (now : Int) (h : VA w G A1 m1 c1 A2 m2 c2 A3 m3 c3 V) (hd : V.drains.length ≤ 1000) (hf : V.flows.length ≤ 1000) (hb : V.backs.length ≤ 1000) :
    Calls Tryz.prog 10 #[.agg #[.int .i64 V.gen, .slice A1 m1 c1, .slice A2 m2 c2, .slice A3 m3 c3], .int .i64 now] w fun e w' => SendPost w V now e w' := by
  have HV := Lib.hid h
  have HL := Lib.hid (And.intro hd (And.intro hf hb))
  have X0 := Lib.hid (Blk.new w 26 #[.int .i64 V.gen, .slice A1 m1 c1, .slice A2 m2 c2, .slice A3 m3 c3])
  have K0 := Lib.hid ((Kept.refl [] w).alloc (.cells #[.int .i64 V.gen, .slice A1 m1 c1, .slice A2 m2 c2, .slice A3 m3 c3] 26))
  have SM := Lib.hid (sent_small hb now)
  clear h hd hf hb
  go_enter Tryz.func10, Tryz.ntmps10
  go_upto_region 1 with fail
  obtain ⟨w1, hw1⟩ : ∃ w1, w.alloc (.cells #[.int .i64 V.gen, .slice A1 m1 c1, .slice A2 m2 c2, .slice A3 m3 c3] 26) = w1 := ⟨_, rfl⟩
  rw [hw1] at X0 K0
  simp only [hw1]
  have X1 := X0
  have K1 := K0
  clear hw1 X0 K0
  have hx1 := X1.out.cell
  by_cases hgood : goodV V
  rotate_left
  · have HG := Lib.hid hgood
    clear hgood
    go_upto_region 2 with (first
    | (go_at_call 20
       refine (Of_any w1 V (HV.out.go K1.out) HL.out.1 HL.out.2.1 HL.out.2.2).mono ?_
       rintro e w2 hpost
       obtain ⟨e1, hne, rfl, hk2⟩ := of_no hpost HG.out
       have K2 := Lib.hid (K1.out.trans hk2 (by simp))
       clear hk2 hpost))
    have i4 : (e1 != 0) = true := by simp [hne]
    go_wp2
    go_ret2
    exact .inr ⟨fun hh => HG.out hh.1, rfl, K2.out⟩
  have HG := Lib.hid hgood
  clear hgood
  go_upto_region 2 with (first
    | (go_at_call 20
       refine (Of_any w1 V (HV.out.go K1.out) HL.out.1 HL.out.2.1 HL.out.2.2).mono ?_
       rintro e w2 hpost
       obtain ⟨qq, S, rfl, hst, hok, hiv⟩ := of_yes hpost HG.out
       have hk2 := hst.kept
       have ST := Lib.hid hst
       have OK := Lib.hid hok
       have IV := Lib.hid hiv
       clear hst hok hiv
       have K2 := Lib.hid (K1.out.trans hk2 (by simp))
       have X2 := Lib.hid (X1.out.kept hk2 (by simp))
       clear hk2 hpost))
  clear hx1
  have hx2 := X2.out.cell
  rcases htm : timeB now with _ | _
  · have HT := Lib.hid htm
    have hways : now < 0 ∨ (¬ now < 0 ∧ 1099511627776 < now) := by
      unfold timeB inB at htm
      simp at htm
      omega
    rcases hways with i1 | ⟨i1, i2⟩
    all_goals
      go_wp2
      go_ret2
      exact .inr ⟨fun hh => (by have := HT.out; rw [hh.2] at this; cases this), rfl, K2.out⟩
  have HT := Lib.hid htm
  have hways : ¬ now < 0 ∧ ¬ 1099511627776 < now := by
    unfold timeB inB at htm
    simp at htm
    omega
  obtain ⟨it1, it2⟩ := hways
  clear htm
  go_wp2_with (first
    | (go_at_call 21
       refine (Records_any ST.out OK.out).mono ?_
       rintro e w3 ⟨V9, A4, m4, c4, rfl, hv9, hr3⟩
       obtain rfl : V = V9 := IV.out.one OK.out hv9
       have R3 := Lib.hid hr3
       have RLN := Lib.hid (rlen V)
       clear hv9 hr3 hx2)
    | (at_builtin
       have hk6 : Kept [] w3 (w3.alloc (.cells #[.int .i64 (rDr (65535, now)).kind, .int .u32 ((rDr (65535, now)).tup.src.toNat : Nat), .int .u32 ((rDr (65535, now)).tup.dst.toNat : Nat), .int .i64 (rDr (65535, now)).tup.proto, .int .i64 (rDr (65535, now)).tup.sport, .int .i64 (rDr (65535, now)).tup.dport, .int .i64 (rDr (65535, now)).fb, .int .i64 (rDr (65535, now)).fg, .int .i64 (rDr (65535, now)).fs, .int .i64 (rDr (65535, now)).gen, .slice none 0 0, .int .i64 (rDr (65535, now)).back, .int .i64 (rDr (65535, now)).until_, .int .i64 (rDr (65535, now)).count] 43)) := (Kept.refl [] w3).alloc _
       have hN7 := R3.out.go hk6
       apply wpList_rec (r := rDr (65535, now)) rfl (.tmp 32) (.tmp 35) rfl
       case hs => exact rfl
       case hN => exact hN7
       case hx => exact rfl
       case hb => exact Blk.new _ _ _
       case hr => exact rfl
       case hl => exact (by rw [RLN.out]; have := HL.out; omega)
       intro A5 m5 c5 w5 hR5 hk5 hn5
       have R5 := Lib.hid hR5
       have HM5 : Hid (m5 = (recsV V).length + 1) := Lib.hid (by obtain ⟨_, hq, _⟩ := hR5.arr; have := hq.len.1; simp at this; omega)
       clear hk5 hn5 hR5 hk6 hN7)
    | (at_builtin
       have hk6 : Kept [] w5 (w5.alloc (.cells #[.int .i64 (rEn (m5 : Nat)).kind, .int .u32 ((rEn (m5 : Nat)).tup.src.toNat : Nat), .int .u32 ((rEn (m5 : Nat)).tup.dst.toNat : Nat), .int .i64 (rEn (m5 : Nat)).tup.proto, .int .i64 (rEn (m5 : Nat)).tup.sport, .int .i64 (rEn (m5 : Nat)).tup.dport, .int .i64 (rEn (m5 : Nat)).fb, .int .i64 (rEn (m5 : Nat)).fg, .int .i64 (rEn (m5 : Nat)).fs, .int .i64 (rEn (m5 : Nat)).gen, .slice none 0 0, .int .i64 (rEn (m5 : Nat)).back, .int .i64 (rEn (m5 : Nat)).until_, .int .i64 (rEn (m5 : Nat)).count] 43)) := (Kept.refl [] w5).alloc _
       have hN7 := R5.out.go hk6
       apply wpList_rec (r := rEn (m5 : Nat)) rfl (.tmp 37) (.tmp 41) rfl
       case hs => exact rfl
       case hN => exact hN7
       case hx => exact rfl
       case hb => exact Blk.new _ _ _
       case hr => exact rfl
       case hl => exact (by rw [List.length_append, RLN.out]; have := HL.out; simp; omega)
       intro A7 m7 c7 w7 hR7 hk7 hn7
       have R7 := Lib.hid hR7
       clear hk7 hn7 hR7 hk6 hN7))
  have R8 := Lib.hid (show RecN w2 w7 (.slice A7 m7 c7) (sentR V now) by have := R7.out; rw [HM5.out] at this; exact this)
  have K7 := Lib.hid (K2.out.trans R8.out.kept (by simp))
  clear R5 R7 HM5
  obtain ⟨Gr, har, hgr⟩ := R8.out.arr
  have AR := Lib.hid har
  have GR : Hid (∀ k ∈ Gr, k < w7.heap.size) := Lib.hid (fun k hk => (hgr k hk).2)
  have hln : c7 ≤ 2 ^ 63 - 1 := har.len.2.2.1
  have hmc : m7 ≤ c7 := har.len.2.1
  have SL := Lib.hid (show m7 ≤ 2003 by have := har.len.1; rw [sent_len, RLN.out] at this; have := HL.out; omega)
  have L7 := Lib.hid har.len.1
  clear har hgr
  obtain ⟨l, hl⟩ : ∃ l, sentR V now = l := ⟨_, rfl⟩
  have Hl := Lib.hid hl
  rw [hl] at AR L7 SM
  clear hl R8
  go_loopg [9, 45] m7 (fun g b i wr => ∃ j : Nat, j ≤ m7 ∧ g = m7 - j ∧ i = .int .i64 j ∧ ∃ bs : List UInt8, NB w7 wr b bs ∧ bs = strm (l.take j))
  case atStart => exact ⟨0, by omega, by omega, rfl, [], NB.nil (Kept.refl _ _), rfl⟩
  case round =>
    obtain ⟨j, hj, rfl, rfl, bs, hn, hbs⟩ := hrel
    obtain ⟨B, bm, bc, rfl⟩ := hn.form
    have hbl : bs.length ≤ 8300000 := by
      rw [hbs]
      have h1 := strm_le (l.take j)
      have h2 : (l.take j).length ≤ j := by rw [List.length_take]; omega
      have h3 := SL.out
      omega
    have Hbs := Lib.hid hbs
    have Hn := Lib.hid hn
    have Hbl := Lib.hid hbl
    clear hbs hn hbl
    by_cases hlt : j < m7
    · have hkl : j < l.length := by rw [L7.out]; exact hlt
      obtain ⟨g, o, C, n, d, rfl, hg, hgG, hat, hbk⟩ := (RecArr.kept AR.out Hn.out.kept (by simp)).at (k := j) hkl
      have Hbk := Lib.hid hbk
      have hn1 : n ≤ 1000 := by rw [← hbk.len.1]; exact SM.out _ (List.getElem_mem hkl)
      have Htk := Lib.hid (show l.take (j + 1) = l.take j ++ [l[j]] by rw [List.take_add_one, List.getElem?_eq_getElem hkl]; rfl)
      clear hbk
      generalize l[j]'hkl = r at *
      obtain ⟨c0, c1', c2', c3', c4, c5', c6, c7', c8, c9, c10, c11, c12, c13⟩ := hat
      have i0 : (0 : Int) ≤ (j : Int) := by omega
      have i1 : (j : Int) < (m7 : Int) := by omega
      have iw : IntKind.i64.wrap ((j : Int) + 1) = (j : Int) + 1 := IntWalk.i64_in _ (by omega)
      obtain ⟨f, hf⟩ : ∃ f, encF r 3 = f := ⟨_, rfl⟩
      have HF := Lib.hid hf
      have PL := Lib.hid (show (putF (encF r 3)).length ≤ 4112 by have := join_le [encF r 3]; simpa [joinF_cons, joinF_nil] using this)
      rw [hf] at PL
      obtain ⟨ee, hee⟩ : ∃ ee, encE r 3 = ee := ⟨_, rfl⟩
      have HEE := Lib.hid hee
      clear hf hee
      go_wp2_with (first
        | (((with_reducible show wpList _ _ _ ({ dst := none, op := Op.store 43 (.tmp 11) (.tmp 48), type := _, pos := _, after := _, guard := _ } :: _) _ _); refine wpList_put (t := 43) rfl 43 (.tmp 11) (.tmp 48) rfl _ (by rfl) (by rfl) (by (repeat (first | (apply Blk.new'; simp; done) | apply Blk.alloc | apply Blk.drew))) (by rfl) (by kernel_rfl) (by simp [Value.oneCell']) ?_; intro wb hbb hkb; have Hbb := Lib.hid hbb; have Hkb := Lib.hid hkb; clear hbb hkb)
           have KB := Lib.hid (((Kept.refl [] wr).alloc _).trans Hkb.out (fun i hi => .inr (by simp at hi; omega)))
           have hxb := Hbb.out.cell)
        | (go_at_call 22
           refine (Encode_any wb r 3 (⟨BkArr.kept Hbk.out KB.out (by simp), fun k hk => Nat.lt_of_lt_of_le (GR.out k hk) (Hn.out.kept.trans KB.out (by simp)).size, by omega⟩ : SmallB wb Gr C n d r.backs) hn1).mono ?_
           rintro e wc ⟨sl, rfl, hsl⟩
           rw [HF.out] at hsl ⊢
           rw [HEE.out]
           have NC : Hid (NB wb wc sl f.body) := Lib.hid (NB.of hsl)
           have KC := Lib.hid (KB.out.trans NC.out.kept (by simp))
           obtain ⟨D1, d1, d2, rfl⟩ := NC.out.form
           clear hsl hxb)
        | (((with_reducible show wpList _ _ _ ({ dst := none, op := Op.store 45 (.tmp 12) (.tmp 52), type := _, pos := _, after := _, guard := _ } :: _) _ _); refine wpList_put (t := 45) rfl 45 (.tmp 12) (.tmp 52) rfl _ (by rfl) (by rfl) (by (repeat (first | (apply Blk.new'; simp; done) | apply Blk.alloc | apply Blk.drew))) (by rfl) (by kernel_rfl) (by simp [Value.oneCell']) ?_; intro wd hbd hkd; have Hbd := Lib.hid hbd; have Hkd := Lib.hid hkd; clear hbd hkd)
           have hkcd := (((Kept.refl [] wc).alloc _).trans Hkd.out (fun i hi => .inr (by simp at hi; omega)) : Kept [] wc wd)
           have KD := Lib.hid (KC.out.trans hkcd (by simp))
           have ND := Lib.hid (NC.out.go hkcd)
           have hxd := Hbd.out.cell
           clear hkcd)
        | (go_at_call 23
           refine (Put_any wd _ _ _ _ f ND.out.rd).mono ?_
           rintro e we ⟨v, rfl, hv⟩
           have NE : Hid (NB wd we v (putF f)) := Lib.hid (NB.of hv)
           have KE := Lib.hid (KD.out.trans NE.out.kept (by simp))
           have BE := Lib.hid (Hn.out.go KE.out)
           obtain ⟨E1, e1', e2', rfl⟩ := NE.out.form
           clear hv hxd)
        | (at_builtin
           obtain ⟨_, _, _, hse, hrd, hnl, hml⟩ := NE.out.src
           injection hse with hs1 hs2 hs3
           subst hs1 hs2 hs3
           refine wpList_app _ rfl (.tmp 59) (.tmp 60) 31 rfl elem_u8 (by rfl) BE.out.1 (by rfl) hrd hnl (u8s_one _) (by have := Hbl.out; have := putF_len_le f; unfold maxLen; have := PL.out; omega) (by have := Hbl.out; have := PL.out; omega) ?_
           intro v9 w9 ho9 hk9 hr9
           have N9 := Lib.hid (BE.out.app ho9 hk9 hr9)
           obtain ⟨A9, n9, c9', rfl⟩ := ho9.form'
           clear ho9 hk9 hr9 hrd hnl hml))
      go_roundg (m7 - (j + 1))
      case measure => omega
      case rel => exact ⟨j + 1, by omega, rfl, by go_num, bs ++ putF f, N9.out, by rw [Htk.out, strm_snoc, Hbs.out, HF.out]⟩
    · obtain rfl : m7 = j := by omega
      have i1 : ¬ (m7 : Int) < (m7 : Int) := by omega
      go_wp2
      go_ret2
      refine .inl ⟨HG.out, HT.out, _, _, _, rfl, (Hn.out.wide K7.out).cast ?_⟩
      rw [Hbs.out, Hl.out, List.take_of_length_le (by rw [L7.out]; exact Nat.le_refl _)]
end
end Go.Proofs.YtkacghjglicjiaaGreat
