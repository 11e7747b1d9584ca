
/-
  The walk of GensFinds.
-/
import Derived.Test.YtpbebadbnkimeaaDoorGenW
import Derived.Test.YtpbebadbnkimeaaDoorGenY
namespace Go.Proofs.YtpbebadbnkimeaaDoor
open Go.RowKit Go.ChangeShapes Go.WideShapes Go.ChangeAt Go.Deep
set_option linter.unusedVariables false
set_option maxRecDepth 100000

theorem find_mem {l : List BackD} {b : BackD} (h : b ∈ l) : (findB l b.id).isSome = true := by
  cases e : findB l b.id with
  | some x => rfl
  | none => exact absurd rfl (findB_none.1 e b h)
theorem find_last {l : List BackD} {p : Nat} {a : BackD} (ha : l[p]? = some a) (hl : ∀ j x, p < j → l[j]? = some x → x.id ≠ a.id) : findB l.reverse a.id = some a := by
  have hp := (List.getElem?_eq_some_iff.1 ha).1
  have e : l = l.take p ++ a :: l.drop (p + 1) := by
    conv => lhs; rw [← List.take_append_drop p l]
    congr 1
    rw [← List.getElem_cons_drop (h := hp)]
    rw [List.getElem?_eq_getElem hp] at ha
    injection ha with ha; rw [ha]
  have h0 : findB (l.drop (p + 1)).reverse a.id = none := findB_none.2 fun b hb => by
    obtain ⟨j, hj⟩ := List.getElem?_of_mem (List.mem_reverse.1 hb)
    rw [List.getElem?_drop] at hj
    exact hl (p + 1 + j) b (by omega) hj
  conv => lhs; rw [e]
  rw [List.reverse_append, List.reverse_cons, List.append_assoc, findB_app, h0, List.singleton_append, findB_cons, if_pos rfl]
  rfl
theorem sort_finds {l : List BackD} (hl : l.length ≤ 16) (id : Int) : findB (sortB l) id = findB l.reverse id := by rw [sort_find, List.take_of_length_le hl]
theorem filt_inc {l : List BackD} (h : incB l = true) (out : Int) : (l.filter fun b => !decide (b.id = out)).length + (if (findB l out).isSome then 1 else 0) = l.length := by
  induction l with
  | nil => rfl
  | cons a l ih =>
    obtain ⟨h1, h2⟩ := incB_cons.1 h
    have ih := ih h2
    rw [findB_cons]
    by_cases ha : a.id = out
    · rw [if_pos ha, List.filter_cons, if_neg (by simp [ha])]
      have h3 : l.filter (fun b => !decide (b.id = out)) = l := List.filter_eq_self.2 fun b hb => by
        have := h1 b hb
        simp; omega
      rw [h3]; simp
    · rw [if_neg ha, List.filter_cons, if_pos (by simp [ha])]
      simp only [List.length_cons]
      omega
theorem filt_gone (l : List BackD) (out : Int) : findB (l.filter fun b => !decide (b.id = out)) out = none := findB_none.2 fun b hb => by
  have := (List.mem_filter.1 hb).2
  simpa using this
/-- none behind the pth, among the next q, is of its number -/
def lastK (l : List BackD) (p q : Nat) (a : BackD) : Bool := ((l.drop (p + 1)).take q).all fun b => !decide (b.id = a.id)
theorem lastK_zero (l : List BackD) (p : Nat) (a : BackD) : lastK l p 0 a = true := by simp [lastK]
theorem lastK_succ {l : List BackD} {p q : Nat} {a x : BackD} (h : l[p + 1 + q]? = some x) : lastK l p (q + 1) a = (lastK l p q a && !decide (x.id = a.id)) := by
  unfold lastK
  rw [List.take_add_one, List.getElem?_drop, h, List.all_append]
  simp
theorem lastK_all {l : List BackD} {p q : Nat} {a : BackD} (h : lastK l p q a = true) (hq : l.length ≤ p + 1 + q) : ∀ j x, p < j → l[j]? = some x → x.id ≠ a.id := by
  intro j x hj hx
  unfold lastK at h
  rw [List.take_of_length_le (by rw [List.length_drop]; omega), List.all_eq_true] at h
  have h1 : x ∈ l.drop (p + 1) := by
    have : (l.drop (p + 1))[j - (p + 1)]? = some x := by rw [List.getElem?_drop, show p + 1 + (j - (p + 1)) = j by omega]; exact hx
    exact List.mem_of_getElem? this
  simpa using h x h1
theorem neqB_run (f g : BackD) (w : World) : (binOp .neq 27 (.agg #[.int .i64 f.id, .int .u32 (f.addr.toNat : Nat), .int .i64 f.weight]) (.agg #[.int .i64 g.id, .int .u32 (g.addr.toNat : Nat), .int .i64 g.weight])).run Tryd.prog w = .ok (.bool (!sameB f g)) w := by
  rw [run_neq_struct, eqB_run]; rfl
set_option maxHeartbeats 6400000 in
theorem GensFinds_at (w : World) {G : List Nat} {A : Option Addr} {m c : Nat} (l : List BackD) (out : Int) (h : BkArr w G (.slice A m c) l) (hG : ∀ k ∈ G, k < w.heap.size) (mx : Int) (hm : w.cell? ⟨0, 0, none⟩ = some (.int .i64 mx)) (ht : PowTab w) :
    Calls Tryd.prog 5 #[.slice A m c, .int .i64 out] w fun e w' => e = .returned (.bool true) ∧ Kept [] w w' := by
  obtain ⟨a1, a2, a3, a4⟩ := h.len
  have H := Lib.hid h
  have A1 := Lib.hid a1
  have HG := Lib.hid hG
  have HA := Lib.hid (fun w' (hk : Kept [] w w') => awake13_any w' mx (m_kept hm hk) (tab_kept ht (g := 3) (by kernel_rfl) hk (by simp)))
  have O0 := Lib.hid (Blk.new w 3 #[.int .i64 out])
  have K0 := Lib.hid ((Kept.refl [] w).alloc (.cells #[.int .i64 out] 3))
  obtain ⟨ob, hob⟩ : ∃ ob, w.heap.size = ob := ⟨_, rfl⟩
  rw [hob] at O0
  clear h a1 a4 hm ht hG
  unfold maxLen at a3
  by_cases h0 : 16 < m
  · have i3 : (16 : Int) < (m : Int) := by omega
    go_enter Tryd.func5, Tryd.ntmps5
    go_wp2_with (go_at_call 6; refine (HA.out _ K0.out).mono ?_; rintro e w1 ⟨rfl, k1⟩; have K := Lib.hid (K0.out.trans k1 (by simp)); clear k1)
    go_ret
    exact ⟨rfl, K.out⟩
  · have i3 : ¬ (16 : Int) < (m : Int) := by omega
    have hm16 : m ≤ 16 := by omega
    have hmw : IntKind.i64.wrap ((m : Int) - 1) = (m : Int) - 1 := IntWalk.i64_in _ (by omega)
    have hmw2 : wrap64 ((m : Int) - 1) = (m : Int) - 1 := by unfold wrap64; omega
    have HS1 := Lib.hid (fun w' (hk : Kept [] w w') => gSort_any w' l (BkArr.kept H.out hk (by simp)) (fun k hk' => Nat.lt_of_lt_of_le (HG.out k hk') hk.size) (by omega))
    obtain ⟨ls, hls⟩ : ∃ x, sortB l = x := ⟨_, rfl⟩
    have HFI := Lib.hid (show ∀ id, findB ls id = findB l.reverse id by rw [← hls]; exact sort_finds (by rw [A1.out]; exact hm16))
    have HIN := Lib.hid (show incB ls = true by rw [← hls]; exact sort_inc l)
    have HSL := Lib.hid (show ls.length ≤ 16 by rw [← hls]; exact sort_len l)
    rw [hls] at HS1
    clear h0 hls
    go_enter Tryd.func5, Tryd.ntmps5
    go_wp2_with (go_at_call 7
                 go_must (refine (HS1.out _ K0.out).mono ?_)
                 go_must (rintro e w1 ⟨v1, rfl, hv⟩)
                 go_must (have V := Lib.hid hv)
                 go_must (obtain ⟨A5, m5, c5, rfl⟩ := BkV.form' hv)
                 go_must (have O := Lib.hid (O0.out.kept (LV.kept hv) (by simp)))
                 go_must (have K := Lib.hid (K0.out.trans (LV.kept hv) (by simp)))
                 go_must (clear hv))
    have W1 := Lib.hid (LV.wide V.out K0.out)
    clear V O0 hmw hmw2
    go_loopg [6] (m + 1) (fun gg i wr => ∃ k : Nat, k ≤ m ∧ gg = k + 1 ∧ i = .int .i64 ((k : Int) - 1) ∧ BkV w wr (.slice A5 m5 c5) ls ∧ Blk wr ob 3 #[.int .i64 out] ∧ Kept [] w wr)
    case atStart => exact ⟨m, Nat.le_refl _, rfl, by first | rfl | (congr 1; unfold wrap64; omega), W1.out, O.out, K.out⟩
    case round =>
      clear W1 O K
      obtain ⟨k, hk, rfl, rfl, hv, ho, hkw⟩ := hrel
      have V := Lib.hid hv
      have O := Lib.hid ho
      have Hkw := Lib.hid hkw
      clear hv ho hkw
      by_cases hlt : 0 < k
      · obtain ⟨p, rfl⟩ : ∃ p, k = p + 1 := ⟨k - 1, by omega⟩
        rw [show (((p + 1 : Nat) : Int) - 1) = (p : Int) by omega]
        have hpl : p < l.length := by rw [A1.out]; omega
        obtain ⟨g, o, rfl, hgl, hgG, _⟩ := BkArr.at H.out hpl
        have HP := Lib.hid (fun w' (hk : Kept [] w w') => show w'.cell? ⟨g, o + p * 3, none⟩ = some (.int .i64 (l[p]'hpl).id) ∧ w'.cell? ⟨g, o + p * 3 + 1, none⟩ = some (.int .u32 ((l[p]'hpl).addr.toNat : Nat)) ∧ w'.cell? ⟨g, o + p * 3 + 2, none⟩ = some (.int .i64 (l[p]'hpl).weight) from by
          obtain ⟨g', o', heq, _, _, c0, c1, c2⟩ := BkArr.at (BkArr.kept H.out hk (by simp)) hpl
          injection heq with heq
          injection heq with hh1 hh2 _
          subst hh1 hh2
          exact ⟨c0, c1, c2⟩)
        have HPA := Lib.hid (List.getElem?_eq_getElem hpl)
        generalize l[p]'hpl = a at *
        clear hpl
        have j0 : (0 : Int) ≤ (p : Int) := by omega
        have j1 : (p : Int) < (m : Int) := by omega
        have j2 : IntKind.i64.wrap ((p : Int) + 1) = (p : Int) + 1 := IntWalk.i64_in _ (by omega)
        have j3 : wrap64 ((p : Int) + 1) = (p : Int) + 1 := by unfold wrap64; omega
        have j4 : (0 : Int) ≤ (p : Int) + 1 := by omega
        have j5 : (p : Int) + 1 ≤ (m : Int) := by omega
        have j6 : (m : Int) ≤ (c : Int) := by omega
        have j7 : ((p : Int) + 1).toNat = p + 1 := by omega
        have j8 : p < m := by omega
        have hce : ((c = p + 1) = True ∧ m ≤ p + 1) ∨ ((c = p + 1) = False ∧ p + 1 < c) := by
          by_cases h9 : c = p + 1
          · exact .inl ⟨eq_true h9, by omega⟩
          · exact .inr ⟨eq_false h9, by omega⟩
        rcases hce with ⟨hce, b3⟩ | ⟨hce, b3⟩
        all_goals
          go_wp2
          clear hce
          generalize hn2 : m - (p + 1) = n2
          have b1 : p + 1 + n2 ≤ m := by omega
          have b2 : m ≤ p + 1 + n2 := by omega
          clear hn2
          clear j2 j3 j4 j5 j7
          go_loopg [7, 36] n2 (fun gg lv i wr => ∃ (q : Nat) (lb : Bool), q ≤ n2 ∧ gg = n2 - q ∧ i = .int .i64 q ∧ lv = .bool lb ∧ lastK l p q a = lb ∧ BkV w wr (.slice A5 m5 c5) ls ∧ Blk wr ob 3 #[.int .i64 out] ∧ Kept [] w wr)
          case atStart => exact ⟨0, true, by omega, by omega, rfl, rfl, lastK_zero _ _ _, V.out, O.out, Hkw.out⟩
          case round =>
            clear V O Hkw
            obtain ⟨q, lb, hq, rfl, rfl, rfl, hl, hv, ho, hkw⟩ := hrel
            have LK := Lib.hid hl
            have V := Lib.hid hv
            have O := Lib.hid ho
            have Hkw := Lib.hid hkw
            clear hl hv ho hkw
            by_cases hql : q < n2
            · first
                | (exfalso; omega)
                | (have hqx : p + 1 + q < l.length := by rw [A1.out]; omega
                   obtain ⟨g', o', heq, _, _, c0, c1, c2⟩ := (BkArr.kept H.out Hkw.out (by simp)).at (k := p + 1 + q) hqx
                   injection heq with heq
                   injection heq with hh1 hh2 _
                   subst hh1 hh2
                   rw [show o + (p + 1 + q) * 3 = o + (p + 1) * 3 + q * 3 by omega] at c0 c1 c2
                   have HX := Lib.hid (List.getElem?_eq_getElem hqx)
                   generalize l[p + 1 + q]'hqx = x at *
                   clear hqx
                   have LS := Lib.hid (lastK_succ (p := p) (q := q) (a := a) HX.out)
                   have i4 : (0 : Int) ≤ (q : Int) := by omega
                   have i5 : (q : Int) < (n2 : Int) := by omega
                   have B2 := Lib.hid (Blk.new wr 27 #[.int .i64 x.id, .int .u32 (x.addr.toNat : Nat), .int .i64 x.weight])
                   have K2 := Lib.hid (Hkw.out.alloc (.cells #[.int .i64 x.id, .int .u32 (x.addr.toNat : Nat), .int .i64 x.weight] 27))
                   have V2 := Lib.hid (LV.go BkOk V.out ((Kept.refl [] wr).alloc (.cells #[.int .i64 x.id, .int .u32 (x.addr.toNat : Nat), .int .i64 x.weight] 27)))
                   have O2 := Lib.hid (O.out.alloc (.cells #[.int .i64 x.id, .int .u32 (x.addr.toNat : Nat), .int .i64 x.weight] 27))
                   go_wp2
                   generalize wr.alloc (.cells #[.int .i64 x.id, .int .u32 (x.addr.toNat : Nat), .int .i64 x.weight] 27) = wb at B2 K2 V2 O2 ⊢
                   clear c0 c1 c2 V O Hkw
                   have hcb := B2.out.cell
                   obtain ⟨c3, c4, c5'⟩ := HP.out _ K2.out
                   clear c4 c5'
                   cases lb
                   · have hls : lastK l p (q + 1) a = false := by rw [LS.out, LK.out]; rfl
                     have HLS := Lib.hid hls
                     clear hls
                     go_quiet (fail)
                     go_wp2
                     go_roundg (n2 - (q + 1))
                     case measure => omega
                     case rel => exact ⟨q + 1, false, by omega, rfl, by go_num, rfl, HLS.out, LV.go BkOk V2.out ((Kept.refl [] _).drewN _), O2.out.drewN _, K2.out.drewN _⟩
                   · by_cases he : x.id = a.id
                     · have d1 : (x.id != a.id) = false := by simp [he]
                       have d2 : (x.id == a.id) = true := by simp [he]
                       have hls : lastK l p (q + 1) a = false := by rw [LS.out, LK.out]; simp [he]
                       have HLS := Lib.hid hls
                       clear hls he
                       go_quiet (fail)
                       go_wp2
                       go_roundg (n2 - (q + 1))
                       case measure => omega
                       case rel => exact ⟨q + 1, false, by omega, rfl, by go_num, by first | rfl | (rw [d1]) | (rw [d2]; rfl), HLS.out, LV.go BkOk V2.out ((Kept.refl [] _).drewN _), O2.out.drewN _, K2.out.drewN _⟩
                     · have d2 : (x.id == a.id) = false := beq_false_of_ne he
                       have d1 : (x.id != a.id) = true := by simp [bne, d2]
                       have hls : lastK l p (q + 1) a = true := by rw [LS.out, LK.out]; simp [he]
                       have HLS := Lib.hid hls
                       clear hls he
                       go_quiet (fail)
                       go_wp2
                       go_roundg (n2 - (q + 1))
                       case measure => omega
                       case rel => exact ⟨q + 1, true, by omega, rfl, by go_num, by first | rfl | (rw [d1]) | (rw [d2]; rfl), HLS.out, LV.go BkOk V2.out ((Kept.refl [] _).drewN _), O2.out.drewN _, K2.out.drewN _⟩)
            · have hqe : q = n2 := by omega
              obtain ⟨G5, hG5, _⟩ := LV.arr BkOk V.out
              have hfm := HFI.out a.id
              have hsome : (findB ls a.id).isSome = true := by
                rw [hfm]
                exact find_mem (l := l.reverse) (List.mem_reverse.2 (List.mem_of_getElem? HPA.out))
              have HF := Lib.hid (gFind_any wr ls a.id hG5)
              have hlast : lb = true → findB ls a.id = some a := fun hlb => by
                rw [hfm]
                exact find_last HPA.out (lastK_all (LK.out.trans hlb) (by rw [A1.out]; omega))
              obtain ⟨b, hb⟩ := Option.isSome_iff_exists.1 hsome
              rw [hb] at HF
              have hlb2 : lb = true → b = a := fun h9 => by have := hlast h9; rw [hb] at this; exact Option.some.inj this
              have HF := Lib.hid (show Calls Tryd.prog 14 #[.slice A5 m5 c5, .int .i64 a.id] wr fun e w' => e = .returned (.tuple #[.agg #[.int .i64 b.id, .int .u32 (b.addr.toNat : Nat), .int .i64 b.weight], .bool true]) ∧ Kept [] wr w' from HF.out.mono fun e w' h9 => by
                obtain ⟨⟨b9, h1, h2⟩, h3⟩ := h9
                obtain rfl : b9 = b := h2
                exact ⟨h1, h3⟩)
              have HLB := Lib.hid hlb2
              obtain ⟨c3, c4, c5'⟩ := HP.out _ Hkw.out
              clear hG5 hfm hsome hlast hb hlb2 c4 c5'
              go_wp2_with (go_at_call 14
                           go_must (refine HF.out.mono ?_)
                           go_must (rintro e w3 ⟨rfl, k1⟩)
                           go_must (have V3 := Lib.hid (LV.go BkOk V.out k1))
                           go_must (have O3 := Lib.hid (O.out.kept k1 (by simp)))
                           go_must (have K3 := Lib.hid (Hkw.out.trans k1 (by simp)))
                           go_must (clear k1 c3))
              have B4 := Lib.hid (Blk.new w3 27 #[.int .i64 b.id, .int .u32 (b.addr.toNat : Nat), .int .i64 b.weight])
              have V4 := Lib.hid (LV.go BkOk V3.out ((Kept.refl [] w3).alloc (.cells #[.int .i64 b.id, .int .u32 (b.addr.toNat : Nat), .int .i64 b.weight] 27)))
              have O4 := Lib.hid (O3.out.alloc (.cells #[.int .i64 b.id, .int .u32 (b.addr.toNat : Nat), .int .i64 b.weight] 27))
              have K4 := Lib.hid (K3.out.alloc (.cells #[.int .i64 b.id, .int .u32 (b.addr.toNat : Nat), .int .i64 b.weight] 27))
              generalize w3.alloc (.cells #[.int .i64 b.id, .int .u32 (b.addr.toNat : Nat), .int .i64 b.weight] 27) = w4 at B4 V4 O4 K4 ⊢
              have hcb := B4.out.cell
              obtain ⟨c0, c1, c2⟩ := HP.out _ K4.out
              clear V O Hkw V3 O3 K3
              cases lb
              · go_quiet (fail)
                go_wp2
                go_roundg (p + 1)
                case measure => omega
                case rel => exact ⟨p, by omega, rfl, by go_num, LV.go BkOk V4.out ((Kept.refl [] _).drewN _), O4.out.drewN _, K4.out.drewN _⟩
              · obtain rfl : b = a := HLB.out rfl
                have hq9 := neqB_run b b
                have hsb : sameB b b = true := sameB_iff.2 rfl
                rw [hsb] at hq9
                have hg : Tryd.prog.eqGuardType Tryd.prog.depth 27 = false := by kernel_rfl
                clear hsb
                go_quiet (fail)
                go_wp2
                go_roundg (p + 1)
                case measure => omega
                case rel => exact ⟨p, by omega, rfl, by go_num, LV.go BkOk V4.out ((Kept.refl [] _).drewN _), O4.out.drewN _, K4.out.drewN _⟩
      · obtain rfl : k = 0 := by omega
        obtain ⟨G5, hG5, hG6⟩ := LV.arr BkOk V.out
        have hl5 := BkArr.len hG5
        have hfi := filt_inc HIN.out out
        have HWO := Lib.hid (gWithout_any wr ls hG5 hG6 (by have := HSL.out; omega) out ob (O.out.cell 0))
        have HFS := Lib.hid (fun w' (hk : Kept [] wr w') => gFind_any w' ls out (BkArr.kept hG5 hk (by simp)))
        obtain ⟨lr, hlr⟩ : ∃ x, (ls.filter fun b => !decide (b.id = out)) = x := ⟨_, rfl⟩
        have hgone : findB lr out = none := by rw [← hlr]; exact filt_gone ls out
        rw [hlr] at HWO hfi
        have HFR := Lib.hid (fun (w' : World) (A6 : Option Addr) (m6 c6 : Nat) (G : List Nat) (hA : BkArr w' G (.slice A6 m6 c6) lr) => show Calls Tryd.prog 14 #[.slice A6 m6 c6, .int .i64 out] w' fun e w'' => e = .returned (.tuple #[.agg #[.int .i64 (default : BackD).id, .int .u32 ((default : BackD).addr.toNat : Nat), .int .i64 (default : BackD).weight], .bool false]) ∧ Kept [] w' w'' from by
          have h9 := gFind_any w' lr out hA
          rw [hgone] at h9
          refine h9.mono ?_
          rintro e w'' ⟨⟨b9, h1, h2⟩, h3⟩
          obtain rfl : b9 = default := h2
          exact ⟨h1, h3⟩)
        have hls5 := hl5.1
        have HL5 : Hid (m5 ≤ 16) := Lib.hid (by have := HSL.out; omega)
        clear hlr hgone hG5 hG6 hl5 hob
        rw [hls5] at hfi
        cases hsm : (findB ls out).isSome
        all_goals
          rw [hsm] at HFS hfi
          have HFI2 := Lib.hid hfi
          clear hsm hfi hls5
          go_wp2_with (first
            | (go_at_call 15
               go_must (refine HWO.out.mono ?_)
               go_must (rintro e w6 ⟨v6, rfl, hv⟩)
               go_must (obtain ⟨A6, m6, c6, rfl⟩ := BkV.form' hv)
               go_must (have R6 := Lib.hid hv)
               go_must (have K6 := Lib.hid (LV.kept hv))
               go_must (have O6 := Lib.hid (O.out.kept (LV.kept hv) (by simp)))
               go_must (have hco := O6.out.cell)
               go_must (obtain ⟨G7, hG7, _⟩ := LV.arr BkOk hv)
               go_must (have hm6 := (BkArr.len hG7).1)
               go_must (have HF6 := Lib.hid (HFR.out w6 A6 m6 c6 G7 hG7))
               go_must (have h16 := HL5.out)
               go_must (have h17 := HFI2.out)
               go_must (simp only [if_true, Bool.false_eq_true, if_false, Nat.add_zero] at h17)
               go_must (first
                 | (have h18 : m6 = m5 := by omega
                    have hfe : ((m6 : Int) = wrap64 (m5 : Int)) = True := eq_true (by unfold wrap64; omega)
                    have hfb : ((m6 : Int) == wrap64 (m5 : Int)) = true := by rw [beq_iff_eq]; unfold wrap64; omega
                    clear h18)
                 | (have hfe : ((m6 : Int) = wrap64 ((m5 : Int) - 1)) = True := eq_true (by unfold wrap64; omega)
                    have hfb : ((m6 : Int) == wrap64 ((m5 : Int) - 1)) = true := by rw [beq_iff_eq]; unfold wrap64; omega))
               go_must (clear h16 h17 hm6)
               go_must (clear hv hG7))
            | (go_at_call 14
               first
                 | (with_reducible refine HF6.out.mono ?_
                    rintro e w7 ⟨rfl, k1⟩
                    have KA := Lib.hid (((Kept.refl [] w6).trans k1 (by simp)).alloc (.cells #[.int .i64 (default : BackD).id, .int .u32 ((default : BackD).addr.toNat : Nat), .int .i64 (default : BackD).weight] 27))
                    have K7 := Lib.hid (K6.out.trans KA.out (by simp))
                    have O7 := Lib.hid (O6.out.kept KA.out (by simp))
                    have hco := O7.out.cell
                    clear k1)
                 | (refine (HFS.out _ K7.out).mono ?_
                    rintro e w8 ⟨⟨b8, rfl, hb8⟩, k1⟩
                    have K8 := Lib.hid ((K7.out.trans k1 (by simp)).alloc (.cells #[.int .i64 b8.id, .int .u32 (b8.addr.toNat : Nat), .int .i64 b8.weight] 27))
                    clear k1 hco hb8))
            | (go_at_call 6
               refine (HA.out _ (Hkw.out.trans K8.out (by simp))).mono ?_
               rintro e w9 ⟨rfl, k1⟩
               have K9 := Lib.hid ((Hkw.out.trans K8.out (by simp)).trans k1 (by simp))
               clear k1))
          go_ret
          exact ⟨rfl, K9.out⟩
theorem GensFinds_walk {H : Type} {enc : TypeId × Value → H} {S : Prop} (W : World) (base : Nat) (v0 : Value) (d0 : DataW H) (p0 : List MemPlace) (v1 : Value) (d1 : DataW H) (p1 : List MemPlace)
    (hv0 : Value.okWide Tryd.prog W .any base 22 v0) (hv1 : Value.okWide Tryd.prog W .any base 3 v1)
    (h0 : DataW.Trod enc Tryd.prog W 0 (fun _ => true) true 22 v0 d0 p0) (h1 : DataW.Trod enc Tryd.prog W 0 (fun _ => true) true 3 v1 d1 p1) (_ : S) (ht : PowTab W) (m : Int) (hm : W.cell? ⟨0, 0, none⟩ = some (.int .i64 m)) :
    Calls Tryd.prog 5 #[v0, v1] W fun e W' => e = .returned (.bool true) ∧ Below W.heap.size W W' := by
  obtain ⟨A, n, c, l, rfl, hl, _⟩ := open_listN hv0 h0
  obtain ⟨t, rfl, _⟩ := open_i64N hv1 h1
  exact (GensFinds_at W l t hl (fun k hk => List.mem_range.1 hk) m hm ht).mono fun e W' ⟨h, hk⟩ => ⟨h, hk.below (Nat.le_refl _) (by simp)⟩
end Go.Proofs.YtpbebadbnkimeaaDoor
