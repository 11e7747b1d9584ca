
/-
  The document's disk: names, a file read, a file put, a disk made, a disk copied, picks.
-/
import Derived.Test.YthdjdfdefibepaaRkC
section
namespace Go.Proofs.Ythdjdfdefibepaa
open Go.RowKit Go.ChangeShapes Go.WideShapes Go.ChangeAt Go.Deep Go.MapKept
set_option linter.unusedVariables false

def RowPost (w : World) (G : List Nat) (l : List (Bs × Nat)) (e : Ending) (w' : World) : Prop :=
  ∃ A m c G', e = .returned (.slice A m c) ∧ NmArr w' G' (.slice A m c) l ∧ (∀ k ∈ G', (k ∈ G ∨ w.heap.size ≤ k) ∧ k < w'.heap.size) ∧ Kept [] w w'
theorem RowPost.of {w wa w' : World} {G : List Nat} {l : List (Bs × Nat)} {A : Option Addr} {m c : Nat} (h : NmV wa w' (.slice A m c) l) (hk : Kept [] w wa) : RowPost w G l (.returned (.slice A m c)) w' := by
  obtain ⟨h1, h2, h3⟩ := lv_arr NmOk (fun h => h) h
  exact ⟨A, m, c, _, rfl, h1, fun k hm => ⟨.inr (Nat.le_trans hk.size (h2 k hm).1), (h2 k hm).2⟩, hk.trans h3 (by simp)⟩
set_option maxHeartbeats 1600000 in
theorem rturn_any (w : World) {G : List Nat} {A : Option Addr} {m c : Nat} {l : List (Bs × Nat)} (h : NmArr w G (.slice A m c) l) (hG : ∀ k ∈ G, k < w.heap.size) (q : McD) (hm : m ≤ 1000) :
    Calls Try.prog 68 #[.slice A m c, .agg #[.string (strOf q.src), .string (strOf q.dst), .int .i64 (q.f : Nat)]] w fun e w' => RowPost w G (turM l q) e w' := by
  have H := Lib.hid h
  have A1 := Lib.hid (arr_lens h).1
  have HG := Lib.hid hG
  have X0 := Lib.hid (Blk.new w 99 #[.string (strOf q.src), .string (strOf q.dst), .int .i64 (q.f : Nat)])
  have K0 := Lib.hid ((Kept.refl [] w).alloc (.cells #[.string (strOf q.src), .string (strOf q.dst), .int .i64 (q.f : Nat)] 99))
  have H0 := Lib.hid (NmArr.kept h K0.out (by simp))
  have t0 : ByteArray.toList ⟨#[]⟩ = [] := strOf_toList []
  have t1 := strOf_toList q.src
  have t2 := strOf_toList q.dst
  clear h hG
  go_enter Try.func68, Try.ntmps68
  by_cases hs : q.src = []
  · have HS := Lib.hid hs
    have b1 : (q.src == []) = true := by simpa using hs
    have b2 : (q.src != []) = false := by simpa using hs
    by_cases hd : q.dst = []
    · have HT := Lib.hid (show turM l q = l by unfold turM; simp [hs, hd])
      have b3 : (q.dst == []) = true := by simpa using hd
      have b4 : (q.dst != []) = false := by simpa using hd
      clear hs hd
      go_wp2
      go_ret
      rw [HT.out]
      exact ⟨A, m, c, G, rfl, H0.out, fun k hk => ⟨.inl hk, Nat.lt_of_lt_of_le (HG.out k hk) K0.out.size⟩, K0.out⟩
    · have HT := Lib.hid (show turM l q = wiM l q.dst q.f by unfold turM; simp [hs, hd])
      have b3 : (q.dst == []) = false := by simpa using hd
      have b4 : (q.dst != []) = true := by simpa using hd
      clear hs hd
      go_wp2_with (first
        | (go_at_call 73
           refine (rwith_any _ H0.out q.dst q.f hm).mono ?_
           rintro e w1 ⟨A9, m9, c9, rfl, hv⟩
           have HV := Lib.hid hv
           clear hv))
      go_ret
      rw [HT.out]
      exact RowPost.of HV.out K0.out
  · have HS := Lib.hid hs
    have b1 : (q.src == []) = false := by simpa using hs
    have b2 : (q.src != []) = true := by simpa using hs
    by_cases hd : q.dst = []
    · have HT := Lib.hid (show turM l q = delM l q.src by unfold turM; simp [hs, hd])
      have b3 : (q.dst == []) = true := by simpa using hd
      have b4 : (q.dst != []) = false := by simpa using hd
      clear hs hd
      go_wp2_with (first
        | (go_at_call 72
           refine (rwithout_any _ H0.out q.src hm).mono ?_
           rintro e w1 ⟨A9, m9, c9, rfl, hv⟩
           have HV := Lib.hid hv
           have hx1 := (X0.out.kept (LV.kept HV.out) (by simp)).cell
           clear hv))
      go_ret
      rw [HT.out]
      exact RowPost.of HV.out K0.out
    · have HT := Lib.hid (show turM l q = wiM (delM l q.src) q.dst q.f by unfold turM; simp [hs, hd])
      have b3 : (q.dst == []) = false := by simpa using hd
      have b4 : (q.dst != []) = true := by simpa using hd
      clear hs hd
      go_wp2_with (first
        | (go_at_call 72
           refine (rwithout_any _ H0.out q.src hm).mono ?_
           rintro e w1 ⟨A9, m9, c9, rfl, hv⟩
           have HV := Lib.hid hv
           have hx1 := (X0.out.kept (LV.kept HV.out) (by simp)).cell
           have VA := Lib.hid (lv_arr NmOk (fun h => h) HV.out)
           have M9 := Lib.hid (show m9 ≤ 1000 by have h1 := (arr_lens VA.out.1).1; have h2 := delN_len l q.src; have h3 := A1.out; omega)
           clear hv)
        | (go_at_call 73
           refine (rwith_any _ VA.out.1 q.dst q.f M9.out).mono ?_
           rintro e w2 ⟨A8, m8, c8, rfl, hv2⟩
           have HV2 := Lib.hid hv2
           clear hv2))
      go_ret
      rw [HT.out]
      exact RowPost.of HV2.out (K0.out.trans (LV.kept HV.out) (by simp))
section
variable {w : World} {p : Nat} {H : List Nat} {vs : List FvD} {M : RkD} {A1 A2 A3 A4 : Option Addr} {c1 c2 c3 c4 : Nat}
/-- the disk's own cells rewritten: the numbers -/
theorem RkX.nums (h : RkX w p H vs M A1 c1 A2 c2 A3 c3 A4 c4) {w' : World} (hk : Kept [p] w w') {n f : Int} (hb : Blk w' p 87 #[.slice A1 M.files.length c1, .slice A2 M.now.length c2, .slice A3 M.sur.length c3, .slice A4 M.ch.length c4, .int .i64 M.quota, .int .i64 n, .int .i64 f]) :
    RkX w' p H vs { M with n := n, fail := f } A1 c1 A2 c2 A3 c3 A4 c4 := by
  have hd : ∀ k ∈ H, k ∉ [p] := fun k hm hp => h.pn (by simp at hp; subst hp; exact hm)
  exact ⟨hb, h.fv.kept hk hd, h.nw.kept hk hd, h.sr.kept hk hd, h.cv.kept hk hd, h.fb.kept hk hd, h.pn, fun k hm => Nat.lt_of_lt_of_le (h.lt k hm) hk.size⟩
theorem rop_any (h : RkX w p H vs M A1 c1 A2 c2 A3 c3 A4 c4) (hn : 0 ≤ M.n ∧ M.n ≤ 1000000) (hf : 0 ≤ M.fail ∧ M.fail ≤ 9223372036854775807) :
    Calls Try.prog 62 #[.pointer (some ⟨p, 0, none⟩)] w fun e w' => e = .returned (.bool (opM M).1) ∧ RkX w' p H vs (opM M).2 A1 c1 A2 c2 A3 c3 A4 c4 ∧ Kept [p] w w' := by
  have hc := h.blk.cell
  have hfr := h.blk.frozen
  have hl := h.blk.lt
  obtain ⟨n1, n2⟩ := hn
  obtain ⟨f1, f2⟩ := hf
  have HX := Lib.hid h
  have iw : IntKind.i64.wrap (M.n + 1) = M.n + 1 := IntWalk.i64_in _ (by omega)
  by_cases h0 : 0 < M.fail
  · have iw2 : IntKind.i64.wrap (M.fail - 1) = M.fail - 1 := IntWalk.i64_in _ (by omega)
    have HO := Lib.hid (show opM M = (decide (M.fail - 1 = 0), { M with n := M.n + 1, fail := M.fail - 1 }) by unfold opM; rw [if_pos h0])
    have B2 := Lib.hid ((h.blk.set 5 (.int .i64 (M.n + 1))).set 6 (.int .i64 (M.fail - 1)))
    have K2 := Lib.hid ((((Kept.refl [p] w).setCell (p := ⟨p, 5, none⟩) (.inl (by simp)) (.int .i64 (M.n + 1))).setCell (p := ⟨p, 6, none⟩) (.inl (by simp)) (.int .i64 (M.fail - 1))))
    clear h
    go_enter Try.func62, Try.ntmps62
    go_wp2
    go_ret
    rw [HO.out]
    exact ⟨by first | rfl | simp, HX.out.nums K2.out B2.out, K2.out⟩
  · have HO := Lib.hid (show opM M = (false, { M with n := M.n + 1 }) by unfold opM; rw [if_neg h0])
    have B2 := Lib.hid (h.blk.set 5 (.int .i64 (M.n + 1)))
    have K2 := Lib.hid ((Kept.refl [p] w).setCell (p := ⟨p, 5, none⟩) (.inl (by simp)) (.int .i64 (M.n + 1)))
    clear h
    go_enter Try.func62, Try.ntmps62
    go_wp2
    go_ret
    rw [HO.out]
    exact ⟨rfl, HX.out.nums K2.out B2.out, K2.out⟩
theorem rFail_any (h : RkX w p H vs M A1 c1 A2 c2 A3 c3 A4 c4) (n : Int) :
    Calls Try.prog 53 #[.pointer (some ⟨p, 0, none⟩), .int .i64 n] w fun e w' => e = .returned (.tuple #[]) ∧ RkX w' p H vs { M with fail := max 0 n } A1 c1 A2 c2 A3 c3 A4 c4 ∧ Kept [p] w w' := by
  have hc := h.blk.cell
  have hfr := h.blk.frozen
  have hl := h.blk.lt
  have HX := Lib.hid h
  have B2 := Lib.hid (h.blk.set 6 (.int .i64 (max 0 n)))
  have K2 := Lib.hid ((Kept.refl [p] w).setCell (p := ⟨p, 6, none⟩) (.inl (by simp)) (.int .i64 (max 0 n)))
  clear h
  go_enter Try.func53, Try.ntmps53
  go_wp2
  go_end0
  exact ⟨rfl, HX.out.nums K2.out B2.out, K2.out⟩
theorem sum_drop {fs : List FlE} {l : List (Bs × Nat)} {j : Nat} {q : Bs × Nat} (h : l[j]? = some q) : ((l.drop j).map fun q => lenF fs q.2).sum = lenF fs q.2 + ((l.drop (j + 1)).map fun q => lenF fs q.2).sum := by
  obtain ⟨hl, e⟩ := List.getElem?_eq_some_iff.1 h
  rw [List.drop_eq_getElem_cons hl, e, List.map_cons, List.sum_cons]
set_option maxHeartbeats 3200000 in
theorem rSize_any (h : RkX w p H vs M A1 c1 A2 c2 A3 c3 A4 c4) (ok : ∀ q ∈ M.now, q.2 < M.files.length) (hs : ∀ f ∈ M.files, f.b.length ≤ 1048576) (hm : M.now.length ≤ 1000) :
    Calls Try.prog 55 #[.pointer (some ⟨p, 0, none⟩)] w fun e w' => e = .returned (.int .i64 (sizM M : Nat)) ∧ Kept [] w w' := by
  have HX := Lib.hid h
  have OK := Lib.hid ok
  have BD := Lib.hid (show sizM M ≤ 1048576 * M.now.length from sum_len_le hs _)
  have hc := h.blk.cell
  have hfr := h.blk.frozen
  have hl := h.blk.lt
  have L2 := (arr_lens h.nw).2
  obtain ⟨a2, a3, a4⟩ := L2
  unfold maxLen at a3
  have LV1 := Lib.hid h.fb.1
  clear h ok hs a4
  obtain ⟨m, hml⟩ : ∃ m, M.now.length = m := ⟨_, rfl⟩
  have ML := Lib.hid hml
  rw [hml] at hm BD a2
  obtain ⟨S, hS⟩ : ∃ S, sizM M = S := ⟨_, rfl⟩
  rw [hS] at BD ⊢
  have HS := Lib.hid hS
  have B1 := Lib.hid (hml ▸ HX.out.blk : Blk w p 87 #[.slice A1 M.files.length c1, .slice A2 m c2, .slice A3 M.sur.length c3, .slice A4 M.ch.length c4, .int .i64 M.quota, .int .i64 M.n, .int .i64 M.fail])
  have N1 := Lib.hid (hml ▸ HX.out.nw : NmArr w H (.slice A2 m c2) M.now)
  clear hc hml hS
  have hc := B1.out.cell
  go_enter Try.func55, Try.ntmps55
  go_wp2
  go_loopg [3, 11] m (fun gg s i wr => ∃ (j k : Nat), j ≤ m ∧ gg = m - j ∧ s = .int .i64 (k : Nat) ∧ i = .int .i64 (j : Nat) ∧ k + ((M.now.drop j).map fun q => lenF M.files q.2).sum = S ∧ Kept [] w wr)
  case atStart => exact ⟨0, 0, by omega, by omega, rfl, rfl, by rw [Nat.zero_add, List.drop_zero]; exact HS.out, Kept.refl _ _⟩
  case round =>
    obtain ⟨j, k, hj, rfl, rfl, rfl, hsum, hkw⟩ := hrel
    have KW := Lib.hid hkw
    have SU := Lib.hid hsum
    clear hsum hkw
    by_cases hlt : j < m
    · obtain ⟨q, hq⟩ : ∃ q, M.now[j]? = some q := ⟨_, List.getElem?_eq_getElem (by rw [ML.out]; exact hlt)⟩
      obtain ⟨x, fi⟩ := q
      have hfi := OK.out _ (List.mem_of_getElem? hq)
      obtain ⟨v, hv⟩ : ∃ v, vs[fi]? = some v := ⟨_, List.getElem?_eq_getElem (by rw [LV1.out]; exact hfi)⟩
      obtain ⟨fe, hfe⟩ : ∃ fe, M.files[fi]? = some fe := ⟨_, List.getElem?_eq_getElem hfi⟩
      have hln := (HX.out.fb.2 fi v fe hv hfe).1.len.1
      have hle : lenF M.files fi = v.m := by rw [lenF_get hfe]; exact hln
      have hsd := sum_drop (fs := M.files) hq
      have SU2 := Lib.hid (show k + v.m + ((M.now.drop (j + 1)).map fun q => lenF M.files q.2).sum = S by have := SU.out; rw [hsd] at this; dsimp only at this; rw [hle] at this; omega)
      have hkk : k + v.m ≤ 1048576000 := by have h1 := SU2.out; have h2 := BD.out; have : 1048576 * m ≤ 1048576 * 1000 := Nat.mul_le_mul (Nat.le_refl _) hm; omega
      obtain ⟨g, o, hA2, hg, hgG, d0, d1⟩ := (N1.out.kept KW.out (by simp)).at hq
      obtain ⟨g1, o1, hA1, hg1, hgG1, e0, e1⟩ := (HX.out.fv.kept KW.out (by simp)).at hv
      have BW := Lib.hid (B1.out.kept KW.out (by simp))
      subst hA2 hA1
      have i0 : (0 : Int) ≤ (j : Int) := by omega
      have i1 : (j : Int) < (m : Int) := by omega
      have i2 : (0 : Int) ≤ (fi : Int) := by omega
      have i3 : (fi : Int) < (M.files.length : Int) := by omega
      have iw : IntKind.i64.wrap ((j : Int) + 1) = (j : Int) + 1 := IntWalk.i64_in _ (by omega)
      have iw2 : IntKind.i64.wrap ((k : Int) + (v.m : Int)) = (k : Int) + (v.m : Int) := IntWalk.i64_in _ (by omega)
      clear hq hv hfe hln hle hsd hc
      go_upto_region 5 with (first
        | (((with_reducible show wpList _ _ _ ({ dst := none, op := Op.store 89 (.tmp 5) (.tmp 14), type := _, pos := _, after := _, guard := _ } :: _) _ _); refine wpList_put (t := 89) rfl 89 (.tmp 5) (.tmp 14) rfl _ (by rfl) (by rfl) (by (repeat (first | (apply Blk.new'; simp; done) | apply Blk.alloc | apply Blk.drew))) (by rfl) (by kernel_rfl) (by simp [Value.oneCell']) ?_; intro w5 hb5 hk5; have Hb5 := Lib.hid hb5; have Hk5 := Lib.hid hk5; clear hb5 hk5)
           have K5 := Lib.hid (((Kept.refl [] wr).alloc _).trans Hk5.out (fun i hi => .inr (by simp at hi; omega)) : Kept [] wr w5)
           have hx5 := Hb5.out.cell
           have hc5 := (BW.out.kept K5.out (by simp)).cell
           have e5 := (K5.out.cell (p := ⟨g1, o1 + fi * 2, none⟩) hg1 (by simp)).trans e0))
      go_quiet (fail)
      have KD := Lib.hid (KW.out.trans (K5.out.trans ((Kept.refl [] w5).drewN nq) (by simp)) (by simp))
      go_wp2
      go_roundg (m - (j + 1))
      case measure => omega
      case rel => exact ⟨j + 1, k + v.m, by omega, rfl, by go_num, by go_num, SU2.out, KD.out⟩
    · obtain rfl : j = m := by omega
      have i1 : ¬ (j : Int) < (j : Int) := by omega
      have HE := Lib.hid (show k = S by have := SU.out; rw [List.drop_of_length_le (by rw [ML.out]; exact Nat.le_refl _)] at this; simpa using this)
      clear hc
      go_wp2
      go_ret
      exact ⟨by rw [HE.out]; rfl, KW.out⟩
end
end Go.Proofs.Ythdjdfdefibepaa
end

section
namespace Go.Proofs.Ythdjdfdefibepaa
open Go.RowKit Go.ChangeShapes Go.WideShapes Go.ChangeAt Go.Deep Go.MapKept
set_option linter.unusedVariables false

def SrDec (w : World) (G : List Nat) (cs : List Value) (q : Bs) : Prop := cs = [.string (strOf q)]
theorem SrOk : DecOk 1 SrDec where
  len := by rintro w G cs f rfl; rfl
  one := by rintro w G cs f rfl u hu; simp at hu; rcases hu with rfl; rfl
  kept := by rintro w w' G S cs f h hk hd; exact h
  mono := by rintro w G G' cs f h hg; exact h
theorem info_sr : (Try.prog.info? 9).map (fun i => (i.zero, i.size, i.bytes)) = some (some (.string ⟨#[]⟩), 1, 16) := by kernel_rfl
theorem elem_sr : Elem Try.prog 31 9 1 16 := Elem.mk' Try.underlying31 info_sr rfl (by omega)
abbrev SrV (W w : World) (v : Value) (l : List Bs) : Prop := LV SrDec 9 1 W w v l
theorem SrV.arr {W w : World} {A : Option Addr} {m c : Nat} {l : List Bs} (h : SrV W w (.slice A m c) l) : StrA w A m l := by
  have ha := (lv_arr SrOk (fun h => h) h).1
  refine ⟨(arr_lens ha).1, fun i x hi => ?_⟩
  obtain ⟨g, o, cs, e, h1, h2, rfl, hc⟩ := arr_at ha hi
  have h0 := hc 0 (by omega)
  rcases lv_form h with ⟨e1, e2⟩ | ⟨g', c', e1, _⟩
  · rw [e2] at hi; simp at hi
  · injection e1 with e1
    rw [e] at e1
    injection e1 with e1
    injection e1 with e1 e2
    subst e1 e2
    refine ⟨g, e, h1, ?_⟩
    simpa using h0
section
variable {w : World} {p : Nat} {H : List Nat} {vs : List FvD} {M : RkD} {A1 A2 A3 A4 : Option Addr} {c1 c2 c3 c4 : Nat}
def namM (M : RkD) : List Bs := M.now.map (·.1)
def NamPost (w : World) (l : List Bs) (e : Ending) (w' : World) : Prop := ∃ A m c, e = .returned (.slice A m c) ∧ SrV w w' (.slice A m c) l
set_option maxHeartbeats 3200000 in
theorem rNames_any (h : RkX w p H vs M A1 c1 A2 c2 A3 c3 A4 c4) (hm : M.now.length ≤ 1000) :
    Calls Try.prog 32 #[.pointer (some ⟨p, 0, none⟩)] w fun e w' => NamPost w (namM M) e w' := by
  have HX := Lib.hid h
  have hfr := h.blk.frozen
  have hl := h.blk.lt
  have L2 := (arr_lens h.nw).2
  obtain ⟨a2, a3, a4⟩ := L2
  unfold maxLen at a3
  clear h a4
  obtain ⟨m, hml⟩ : ∃ m, M.now.length = m := ⟨_, rfl⟩
  have ML := Lib.hid hml
  rw [hml] at hm a2
  have B1 := Lib.hid (hml ▸ HX.out.blk : Blk w p 87 #[.slice A1 M.files.length c1, .slice A2 m c2, .slice A3 M.sur.length c3, .slice A4 M.ch.length c4, .int .i64 M.quota, .int .i64 M.n, .int .i64 M.fail])
  have N1 := Lib.hid (hml ▸ HX.out.nw : NmArr w H (.slice A2 m c2) M.now)
  clear hml
  have hc := B1.out.cell
  go_enter Try.func32, Try.ntmps32
  go_wp2
  go_loopg [3, 11] m (fun gg s i wr => ∃ (j : Nat) (A : Option Addr) (m1 c1 : Nat), j ≤ m ∧ gg = m - j ∧ s = .slice A m1 c1 ∧ i = .int .i64 (j : Nat) ∧ SrV w wr (.slice A m1 c1) ((M.now.take j).map (·.1)))
  case atStart => exact ⟨0, _, _, _, by omega, by omega, rfl, rfl, LV.nil (Kept.refl _ _)⟩
  case round =>
    obtain ⟨j, As, ms, cs, hj, rfl, rfl, rfl, hv⟩ := hrel
    have HV := Lib.hid hv
    have KW := Lib.hid (LV.kept hv)
    clear hv hc
    by_cases hlt : j < m
    · obtain ⟨q, hq⟩ : ∃ q, M.now[j]? = some q := ⟨_, List.getElem?_eq_getElem (by rw [ML.out]; exact hlt)⟩
      obtain ⟨g, o, hA2, hg, hgG, d0, d1⟩ := (N1.out.kept KW.out (by simp)).at hq
      subst hA2
      have Htk := Lib.hid (show (M.now.take (j + 1)).map (·.1) = (M.now.take j).map (·.1) ++ [q.1] by rw [List.take_add_one, hq]; simp)
      have HLL := Lib.hid (show ((M.now.take j).map (·.1)).length + [q.1].length ≤ 100000 by rw [List.length_map, List.length_take]; simp; omega)
      have i0 : (0 : Int) ≤ (j : Int) := by omega
      have i1 : (j : Int) < (m : Int) := by omega
      have iw : IntKind.i64.wrap ((j : Int) + 1) = (j : Int) + 1 := IntWalk.i64_in _ (by omega)
      clear hq
      go_wp2_with (first
        | (((with_reducible show wpList _ _ _ ({ dst := none, op := Op.store 89 (.tmp 5) (.tmp 14), type := _, pos := _, after := _, guard := _ } :: _) _ _); refine wpList_put (t := 89) rfl 89 (.tmp 5) (.tmp 14) rfl _ (by rfl) (by rfl) (by (repeat (first | (apply Blk.new'; simp; done) | apply Blk.alloc | apply Blk.drew))) (by rfl) (by kernel_rfl) (by simp [Value.oneCell']) ?_; intro w5 hb5 hk5; have Hb5 := Lib.hid hb5; have Hk5 := Lib.hid hk5; clear hb5 hk5)
           have K5 := Lib.hid (((Kept.refl [] wr).alloc _).trans Hk5.out (fun i hi => .inr (by simp at hi; omega)) : Kept [] wr w5)
           have hx5 := Hb5.out.cell)
        | (at_builtin
           have hN7 := LV.go SrOk HV.out (K5.out.alloc (.cells #[.string (strOf q.1)] 9))
           apply wpList_lvs (l2 := [q.1]) SrOk elem_sr (fun h => h) (by omega) rfl (.tmp 15) (.tmp 18) rfl
           case hs => exact rfl
           case hN => exact hN7
           case hx => exact rfl
           case hb => exact arr_blk (Blk.new _ _ _) rfl rfl
           case hl => exact HLL.out
           intro A7 m7 c7 w7 h7 k7 r7
           have V7 := Lib.hid h7
           clear h7 k7 r7 hN7))
      go_roundg (m - (j + 1))
      case measure => omega
      case rel => exact ⟨j + 1, _, _, _, by omega, rfl, rfl, by go_num, by rw [Htk.out]; exact V7.out⟩
    · obtain rfl : j = m := by omega
      have i1 : ¬ (j : Int) < (j : Int) := by omega
      go_wp2
      go_ret
      refine ⟨_, _, _, rfl, ?_⟩
      have h1 := HV.out
      rwa [List.take_of_length_le (by rw [ML.out]; exact Nat.le_refl _)] at h1
theorem rmay_any (w : World) (s : Bs) (hl : s.length ≤ 1000000) : Calls Try.prog 63 #[.string (strOf s)] w fun e w' => e = .returned (.bool (namedD s)) ∧ w = w' := by
  have hs := strOf_size s
  have HN := Lib.hid (show namedD s = (decide (1 ≤ s.length) && decide (s.length ≤ 16)) from rfl)
  by_cases h1 : 1 ≤ s.length
  · by_cases h2 : s.length ≤ 16
    · have i1 : (1 : Int) ≤ (s.length : Int) := by omega
      have i2 : (s.length : Int) ≤ 16 := by omega
      have HR := Lib.hid (show namedD s = true by rw [HN.out, decide_eq_true h1, decide_eq_true h2]; rfl)
      clear h1 h2
      go_enter Try.func63, Try.ntmps63
      go_wp2
      go_ret
      exact ⟨by rw [HR.out]; rfl, rfl⟩
    · have i1 : (1 : Int) ≤ (s.length : Int) := by omega
      have i2 : ¬ (s.length : Int) ≤ 16 := by omega
      have HR := Lib.hid (show namedD s = false by rw [HN.out, decide_eq_true h1, decide_eq_false h2]; rfl)
      clear h1 h2
      go_enter Try.func63, Try.ntmps63
      go_wp2
      go_ret
      exact ⟨by rw [HR.out]; rfl, rfl⟩
  · have i1 : ¬ (1 : Int) ≤ (s.length : Int) := by omega
    have HR := Lib.hid (show namedD s = false by rw [HN.out, decide_eq_false h1]; rfl)
    clear h1
    go_enter Try.func63, Try.ntmps63
    go_wp2
    go_ret
    exact ⟨by rw [HR.out]; rfl, rfl⟩
def pickM (ps : Bs) (k : Nat) : Nat := match ps[k]? with | some b => b.toNat | none => 0
theorem rpick_any (w : World) {G : List Nat} {A : Option Addr} {m c : Nat} {ps : Bs} (h : RdB w G (.slice A m c) ps) (k : Nat) : Calls Try.prog 67 #[.slice A m c, .int .i64 (k : Nat)] w fun e w' => e = .returned (.int .i64 (pickM ps k : Nat)) ∧ w = w' := by
  obtain ⟨h1, h2, h3, h4⟩ := h.len
  have H := Lib.hid h
  have L1 := Lib.hid h1
  clear h h1 h4
  by_cases hk : k < m
  · obtain ⟨b, hb⟩ : ∃ b, ps[k]? = some b := ⟨_, List.getElem?_eq_getElem (by rw [L1.out]; exact hk)⟩
    have HP := Lib.hid (show pickM ps k = b.toNat by unfold pickM; rw [hb])
    obtain ⟨g, o, rfl, hg, hd⟩ : ∃ g o, A = some ⟨g, o, none⟩ ∧ g < w.heap.size ∧ w.cell? ⟨g, o + k, none⟩ = some (.int .u8 b.toNat) := by
      have hr := H.out.rd (by rw [u8s]; intro e; rw [List.map_eq_nil_iff] at e; subst e; simp at hb)
      obtain ⟨g, o, e, hc⟩ := hr
      have h9 := hc k (.int .u8 b.toNat) (by rw [u8s, List.getElem?_map, hb]; rfl)
      exact ⟨g, o, e, World.block_lt_of_cell? _ _ h9, h9⟩
    have i1 : ¬ (m : Int) ≤ (k : Int) := by omega
    have i2 : (k : Int) < (m : Int) := by omega
    have i3 : (0 : Int) ≤ (k : Int) := by omega
    have b9 := b.toNat_lt
    have iw : IntKind.i64.wrap ((b.toNat : Nat) : Int) = ((b.toNat : Nat) : Int) := IntWalk.i64_in _ (by omega)
    clear hb hk
    go_enter Try.func67, Try.ntmps67
    go_wp2
    go_ret
    exact ⟨by rw [HP.out]; rfl, rfl⟩
  · have HP := Lib.hid (show pickM ps k = 0 by unfold pickM; rw [List.getElem?_eq_none (by rw [L1.out]; omega)])
    have i1 : (m : Int) ≤ (k : Int) := by omega
    go_enter Try.func67, Try.ntmps67
    go_wp2
    go_ret
    exact ⟨by rw [HP.out]; rfl, rfl⟩
end
end Go.Proofs.Ythdjdfdefibepaa
end
