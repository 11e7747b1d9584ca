
/-
  The walk of ManifestGrows.
-/
import Derived.Test.YtflbeipnnmeiaaaManZ
import Derived.Deep.RegionHeld3
import Derived.Deep.RegionLaw
import Derived.Outline
namespace Go.Proofs.Ytflbeipnnmeiaaa
open Go.RowKit Go.ChangeShapes Go.WideShapes Go.ChangeAt Go.Deep
set_option linter.unusedVariables false

theorem rises_snoc {next : Int} : ∀ {l : List Int} {was : Int}, was < next → rises next was l = true → rises (next + 1) was (l ++ [next]) = true
  | [], was, h0, _ => by simp [rises, h0]; omega
  | x :: l, was, h0, h => by
    simp only [rises, Bool.and_eq_true, decide_eq_true_eq, List.cons_append] at h ⊢
    exact ⟨h.1, by omega, rises_snoc h.2.1 h.2.2⟩
theorem may_grow {x : ManD} (h : mayM x = true) : mayM ⟨x.ver, x.next + 1, x.segs ++ [x.next]⟩ = (decide ((x.segs.length : Int) + 1 ≤ 64) && decide (x.next + 1 ≤ 1000000)) := by
  obtain ⟨h1, h2, h3, h4, h5, h6⟩ := mayM_parts h
  have hr := rises_snoc (by omega) h6
  unfold mayM
  dsimp only
  rw [h1, hr]
  simp only [List.length_append, List.length_cons, List.length_nil, Bool.true_and, Bool.and_true]
  rw [Bool.eq_iff_iff]
  simp
  omega
theorem same_grow (x : ManD) : sameM x ⟨x.ver, x.next + 1, x.segs ++ [x.next]⟩ = false := by
  cases h : sameM x ⟨x.ver, x.next + 1, x.segs ++ [x.next]⟩ with
  | false => rfl
  | true =>
    have := congrArg ManD.next (sameM_iff.1 h)
    dsimp only at this
    omega
theorem IntArr.rd {w : World} {G : List Nat} {A : Option Addr} {m c : Nat} {l : List Int} (h : IntArr w G (.slice A m c) l) : Rd w A (l.map (.int .i64)) := by
  obtain ⟨A', m', c', e, h1, h2, h3, h4, h5⟩ := h
  injection e with e1 e2 e3
  subst e1 e2 e3
  intro hne
  obtain ⟨g, o, rfl, hg, hlt, hc⟩ := h5 (by rintro rfl; exact hne rfl)
  refine ⟨g, o, rfl, fun j u hu => ?_⟩
  rw [List.getElem?_map] at hu
  cases hj : l[j]? with
  | none => rw [hj] at hu; cases hu
  | some a =>
    rw [hj] at hu
    obtain ⟨cs, hl, ⟨rfl, _⟩, hx⟩ := hc j a hj
    have := hx 0 (by omega)
    simpa using this.trans (by simpa using hu)
theorem IntArr.bds {w : World} {G : List Nat} {v : Value} {l : List Int} (h : IntArr w G v l) : ∀ n ∈ l, -9223372036854775808 ≤ n ∧ n ≤ 9223372036854775807 := by
  obtain ⟨A', m', c', e, h1, h2, h3, h4, h5⟩ := h
  intro n hn
  obtain ⟨g, o, rfl, hg, hlt, hc⟩ := h5 (by rintro rfl; simp at hn)
  obtain ⟨i, hi⟩ := List.getElem?_of_mem hn
  obtain ⟨cs, hl, ⟨_, hb⟩, hx⟩ := hc i n hi
  exact hb
theorem Decs.ints {w : World} {G : List Nat} : ∀ {l : List Int}, (∀ n ∈ l, -9223372036854775808 ≤ n ∧ n ≤ 9223372036854775807) → Decs IntDec w G (l.map fun n => [.int .i64 n]) l
  | [], _ => Decs.nil
  | n :: l, h => Decs.app (css := [[.int .i64 n]]) (l := [n]) (Decs.one' ⟨rfl, h n (by simp)⟩) (Decs.ints fun n hn => h n (by simp [hn]))
theorem flat_ints (l : List Int) : (l.map fun n => [Value.int .i64 n]).flatten = l.map (.int .i64) := by
  induction l with
  | nil => rfl
  | cons n l ih => simp [ih]
/-- numbers more, laid somewhere -/
theorem step_ints {ops : Array Oper} {o : Oper} {a : Act} {K : Act → World → Prop} {Q : Exit → Act → World → Prop} {E0 : Prop} {w0 : World} (hgd : o.guard = none) (s x : Operand)
    (ho : o.op = .call { callee := .builtin .append, args := #[s, x], argTypes := #[22, 22] }) {W W0 : World} {sl : Value} {l l' : List Int} {B : Option Addr} {n d : Nat} (hW0 : W0.heap.size ≤ w0.heap.size)
    (hn : ∀ n ∈ l', -9223372036854775808 ≤ n ∧ n ≤ 9223372036854775807)
    (hs : a.eval s = sl) (hN : IntO W W0 w0 sl l) (hx : a.eval x = .slice B n d) (hR : Rd w0 B (l'.map (.int .i64))) (hlen : l'.length = n) (hl : l.length + n ≤ 1000000)
    (h : ∀ A m c w', IntO W W0 w' (.slice A m c) (l ++ l') → Kept (rowOf sl) w0 w' → K (a.put o.dst (.slice A m c)) w') : if Region.wanted o (yielded ops a.tmps) = true then Oper.wp Try.prog o a w0 K Q else E0 := by
  obtain ⟨css, h1, h2⟩ := hN
  refine step_app _ hgd s x 22 ho elem_int hs h1.own hx hR (by rw [List.length_map, hlen, Nat.mul_one]) (by intro u hu; obtain ⟨a, _, rfl⟩ := List.mem_map.1 hu; rfl) (by unfold maxLen; omega) (by omega) (fun v' w' ho' hk hr => ?_)
  have hx := LVx.app IntOk h1 (Kept.refl [] _) (css' := l'.map fun n => [.int .i64 n]) (l' := l') (G' := []) (Decs.ints hn) (by simp) ho' (by simp [hlen]) (by rw [flat_ints]) hk hr
  obtain ⟨A, m, c, rfl⟩ := Own.form' ho'
  refine h A m c w' ⟨_, hx, fun k hk' => ?_⟩ hk
  rcases hr k hk' with h3 | h3
  · exact h2 k h3
  · omega
set_option maxHeartbeats 6400000 in
theorem ManifestGrows_any (w : World) {A : Option Addr} {m c : Nat} (x : ManD) (h : IntArr w (old w) (.slice A m c) x.segs) :
    Calls Try.prog 4 #[.agg #[.int .i64 x.ver, .int .i64 x.next, .slice A m c]] w fun e w' => e = .returned (.bool true) ∧ Kept [] w w' := by
  have hlm := h.lens.1
  have H := Lib.hid (fun w' (hk : Kept [] w w') => IntArr.kept h hk (by simp))
  have P := Lib.hid (Blk.new w 24 #[.int .i64 x.ver, .int .i64 x.next, .slice A m c])
  have K := Lib.hid ((Kept.refl [] w).alloc (.cells #[.int .i64 x.ver, .int .i64 x.next, .slice A m c] 24))
  have hl := h.lens
  cases hm : mayM x
  · clear h hl hlm
    go_enter Try.func4, Try.ntmps4
    go_wp2_with (first
      | (go_at_call 12
         go_must (refine (mMay_any _ x (H.out _ K.out)).mono ?_)
         go_must (rintro e w1 ⟨rfl, k1⟩)
         go_must (rw [hm])
         go_must (have K := Lib.hid (K.out.trans k1 (by simp)))
         go_must (clear k1))
      | (go_at_call 6
         go_must (refine (awake5_any _).mono ?_)
         go_must (rintro e w2 ⟨rfl, k1⟩)
         go_must (have K := Lib.hid (K.out.trans k1 (by simp)))
         go_must (clear k1)))
    go_ret
    exact ⟨rfl, K.out⟩
  · obtain ⟨q1, q2, q3, q4, q5, q6⟩ := mayM_parts hm
    have hbs := Lib.hid h.bds
    have HM := Lib.hid hm
    have HG := Lib.hid (may_grow hm)
    have HS := Lib.hid (same_grow x)
    have HL := Lib.hid hlm
    rw [hlm] at q2 q3
    clear h q1 q6 hl hm hlm
    go_enter Try.func4, Try.ntmps4
    go_upto_region 4 with (first
      | (go_at_call 12
         go_must (refine (mMay_any _ x (H.out _ K.out)).mono ?_)
         go_must (rintro e w1 ⟨rfl, k1⟩)
         go_must (rw [HM.out])
         go_must (have P := Lib.hid (P.out.kept k1 (by simp)))
         go_must (have hcP := P.out.cell)
         go_must (have K := Lib.hid (K.out.trans k1 (by simp)))
         go_must (clear k1))
      | ((with_reducible show wpList _ _ _ ({ dst := none, op := Op.store 24 (.tmp 3) (.tmp 8), type := _, pos := _, after := _, guard := _ } :: _) _ _); refine wpList_put (t := 24) rfl 24 (.tmp 3) (.tmp 8) rfl _ (by rfl) (by rfl) (by (repeat (first | (apply Blk.new'; simp; done) | apply Blk.alloc | apply Blk.drew))) (by rfl) (by kernel_rfl) (by simp [Value.oneCell']) ?_; intro w9 hb9 hk9; have Hb9 := Lib.hid hb9; have Hk9 := Lib.hid hk9; clear hb9 hk9))
    have hg0 : w.heap.size < w1.heap.size := by have := P.out.lt; omega
    have k2 : Kept [w1.heap.size] w1 w9 := ((Kept.refl [w1.heap.size] w1).alloc _).trans Hk9.out (fun i hi => .inl hi)
    have P := Lib.hid (P.out.kept k2 (by simp; omega))
    have K := Lib.hid (K.out.trans k2 (fun i hi => .inr (by simp at hi; omega)))
    have N := Lib.hid Hb9.out
    have hgN := Hb9.out.lt
    generalize w1.heap.size = g at *
    clear hcP k2 Hb9 Hk9
    go_frame
    go_cut [] (fun wx => ∃ sl, Blk wx w.heap.size 24 #[.int .i64 x.ver, .int .i64 x.next, .slice A m c] ∧ Blk wx g 24 #[.int .i64 x.ver, .int .i64 x.next, sl] ∧ IntO w w9 wx sl (x.segs ++ [x.next]) ∧ Kept [] w wx)
    case first =>
      have hcP := P.out.cell
      have hcN := N.out.cell
      have hPl := P.out.lt
      go_region_law ((first
        | (refine step_ints (W := w) (W0 := w9) (w0 := w9.drew) (l := []) (l' := x.segs) rfl (.const (.slice none 0 0)) (.tmp 10) rfl (Nat.le_refl _) hbs.out (by rfl) (IntO.nil (by repeat (first | with_reducible exact K.out | with_reducible apply Kept.alloc | with_reducible apply Kept.drew))) (by rfl) (H.out _ (by repeat (first | with_reducible exact K.out | with_reducible apply Kept.alloc | with_reducible apply Kept.drew))).rd HL.out (by simp; omega) ?_
           intro A3 m3 c3 w3 h1 k1
           have kA : Kept [] w9 w3 := ((Kept.refl [] w9).drew).trans k1 (by simp [rowOf, Value.ownBlock])
           have P := Lib.hid (P.out.kept kA (by simp))
           have N := Lib.hid (N.out.kept kA (by simp))
           have hcP := P.out.cell
           have hcN := N.out.cell
           have hfN := N.out.frozen
           have K := Lib.hid (K.out.trans kA (by simp))
           have hgN := N.out.lt
           have hPl := P.out.lt
           have S := Lib.hid (h1.cast (List.nil_append _))
           have hs9 := kA.size
           have HX : Hid (Rd (w3.alloc (.cells #[.int .i64 x.next] 3)) (some ⟨w3.heap.size, 0, none⟩) [.int .i64 x.next]) := Lib.hid (Rd.one _ _ _)
           have HU : Hid (Kept [] w3 (w3.alloc (.cells #[.int .i64 x.next] 3))) := Lib.hid ((Kept.refl [] w3).alloc _)
           clear h1 k1 kA)
        | (refine step_ints (W := w) (W0 := w9) (w0 := w9.drew.alloc (.cells #[.int .i64 x.next] 3)) (l := []) (l' := x.segs) rfl (.const (.slice none 0 0)) (.tmp 10) rfl (by simp) hbs.out (by rfl) (IntO.nil (by repeat (first | with_reducible exact K.out | with_reducible apply Kept.alloc | with_reducible apply Kept.drew))) (by rfl) (H.out _ (by repeat (first | with_reducible exact K.out | with_reducible apply Kept.alloc | with_reducible apply Kept.drew))).rd HL.out (by simp; omega) ?_
           intro A3 m3 c3 w3 h1 k1
           have k1 : Kept [] (w9.drew.alloc (.cells #[.int .i64 x.next] 3)) w3 := k1.mono (by simp [rowOf, Value.ownBlock])
           have kA : Kept [] w9 w3 := (((Kept.refl [] w9).drew).alloc _).trans k1 (by simp)
           have P := Lib.hid (P.out.kept kA (by simp))
           have N := Lib.hid (N.out.kept kA (by simp))
           have hcP := P.out.cell
           have hcN := N.out.cell
           have hfN := N.out.frozen
           have K := Lib.hid (K.out.trans kA (by simp))
           have hgN := N.out.lt
           have hPl := P.out.lt
           have S := Lib.hid (h1.cast (List.nil_append _))
           have hs9 := kA.size
           have HX : Hid (Rd w3 (some ⟨w9.heap.size, 0, none⟩) [.int .i64 x.next]) := Lib.hid ((Rd.one w9.drew _ _).kept k1 (by simp))
           have HU : Hid (Kept [] w3 w3) := Lib.hid (Kept.refl [] w3)
           clear h1 k1 kA)
        | (have z2 : ∀ n ∈ [x.next], -9223372036854775808 ≤ n ∧ n ≤ 9223372036854775807 := by intro n hn; simp at hn; omega
           have z3 : x.segs.length + 1 ≤ 1000000 := by rw [HL.out]; omega
           refine step_ints (W := w) (W0 := w9) (w0 := w3) (l := x.segs) (l' := [x.next]) rfl (.tmp 11) (.tmp 14) rfl hs9 z2 (by rfl) (S.out.go HU.out) (by rfl) HX.out rfl z3 ?_
           intro A4 m4 c4 w4 h1 k1
           have hrw := S.out.row
           have kA := (HU.out.mono (T := rowOf (.slice A3 m3 c3)) (by simp)).trans k1 (fun i hi => .inl hi)
           have P := Lib.hid (P.out.kept kA (fun hm => by have := hrw _ hm; omega))
           have N := Lib.hid (N.out.kept kA (fun hm => by have := hrw _ hm; omega))
           have hcP := P.out.cell
           have hcN := N.out.cell
           have hfN := N.out.frozen
           have hgN := N.out.lt
           have hPl := P.out.lt
           have K := Lib.hid h1.kept
           have S := Lib.hid h1
           clear h1 k1 kA hrw)
        | (have z1 : w9.heap.size ≤ (w3.alloc (.cells #[.int .i64 x.next] 3)).heap.size := Nat.le_trans hs9 HU.out.size
           have z2 : ∀ n ∈ [x.next], -9223372036854775808 ≤ n ∧ n ≤ 9223372036854775807 := by intro n hn; simp at hn; omega
           have z3 : x.segs.length + 1 ≤ 1000000 := by rw [HL.out]; omega
           refine step_ints (W := w) (W0 := w9) (w0 := w3.alloc (.cells #[.int .i64 x.next] 3)) (l := x.segs) (l' := [x.next]) rfl (.tmp 11) (.tmp 14) rfl z1 z2 (by rfl) (S.out.go HU.out) (by rfl) HX.out rfl z3 ?_
           intro A4 m4 c4 w4 h1 k1
           have hrw := S.out.row
           have kA := (HU.out.mono (T := rowOf (.slice A3 m3 c3)) (by simp)).trans k1 (fun i hi => .inl hi)
           have P := Lib.hid (P.out.kept kA (fun hm => by have := hrw _ hm; omega))
           have N := Lib.hid (N.out.kept kA (fun hm => by have := hrw _ hm; omega))
           have hcP := P.out.cell
           have hcN := N.out.cell
           have hfN := N.out.frozen
           have hgN := N.out.lt
           have hPl := P.out.lt
           have K := Lib.hid h1.kept
           have S := Lib.hid h1
           clear h1 k1 kA hrw)))
      all_goals
        go_wp2
        go_meet
        case rel =>
          have kE : Kept [g] w4 (w4.setCell ⟨g, 2, none⟩ (.slice A4 m4 c4)) := (Kept.refl _ _).setCell (.inl (by simp)) _
          exact ⟨_, P.out.kept kE (by simp; omega), by simpa using N.out.set 2 (.slice A4 m4 c4), S.out.other kE (by simp; omega), K.out.trans kE (fun i hi => .inr (by simp at hi; omega))⟩
    case rest =>
      obtain ⟨sl, hP, hN, hS, hK⟩ := hcut
      clear P N K
      have kE : Kept [g] wc (wc.setCell ⟨g, 1, none⟩ (.int .i64 (x.next + 1))) := (Kept.refl _ _).setCell (.inl (by simp)) _
      have hS := hS.other kE (by simp; omega)
      have P := Lib.hid (hP.kept kE (by simp; omega))
      have N := Lib.hid (show Blk (wc.setCell ⟨g, 1, none⟩ (.int .i64 (x.next + 1))) g 24 #[.int .i64 x.ver, .int .i64 (x.next + 1), sl] by simpa using hN.set 1 (.int .i64 (x.next + 1)))
      have K := Lib.hid (hK.trans kE (fun i hi => .inr (by simp at hi; omega)))
      have hcN := hN.cell
      have hfN := hN.frozen
      have hw : IntKind.i64.wrap (x.next + 1) = x.next + 1 := IntWalk.i64_in _ (by omega)
      obtain ⟨A3, m3, c3, rfl⟩ := hS.form
      obtain ⟨GY, hy⟩ := IntO.small hS.lv
      have hm3 : m3 = m + 1 := by have := hy.lens.1; rw [List.length_append, HL.out] at this; simpa using this.symm
      have Y := Lib.hid hy
      clear hP hN hS hK hy kE
      go_upto_region 6 with fail
      clear hcN hfN hw
      generalize (wc.setCell ⟨g, 1, none⟩ (.int .i64 (x.next + 1))) = w6 at *
      obtain ⟨y, hy⟩ : ∃ y : ManD, (⟨x.ver, x.next + 1, x.segs ++ [x.next]⟩ : ManD) = y := ⟨_, rfl⟩
      have e1 : x.next + 1 = y.next := by rw [← hy]
      have N := Lib.hid (show Blk w6 g 24 #[.int .i64 y.ver, .int .i64 y.next, .slice A3 m3 c3] by rw [← hy]; exact N.out)
      have Y := Lib.hid (fun w' (hk : Kept [] w6 w') => IntArr.kept (show IntArr w6 GY (.slice A3 m3 c3) y.segs by rw [← hy]; exact Y.out) hk (by simp))
      have HS := Lib.hid (hy ▸ HS.out)
      have hg := HG.out
      rw [hy, HL.out, e1] at hg
      have hways : ((m3 : Int) ≤ 64 ∧ y.next ≤ 1000000 ∧ mayM y = true) ∨ ((m3 : Int) ≤ 64 ∧ ¬ y.next ≤ 1000000 ∧ mayM y = false) ∨ (¬ (m3 : Int) ≤ 64 ∧ mayM y = false) := by
        have e2 : (m : Int) + 1 = m3 := by omega
        rw [e2] at hg
        by_cases h1 : (m3 : Int) ≤ 64
        · by_cases h2 : y.next ≤ 1000000
          · exact .inl ⟨h1, h2, by simpa [h1, h2] using hg⟩
          · exact .inr (.inl ⟨h1, h2, by simpa [h1, h2] using hg⟩)
        · exact .inr (.inr ⟨h1, by simpa [h1] using hg⟩)
      clear hg HG hy hm3 e1
      rcases hways with ⟨h1, h2, h3⟩ | ⟨h1, h2, h3⟩ | ⟨h1, h3⟩
      any_goals
        first
          | (have d2 : decide (y.next ≤ 1000000) = false := decide_eq_false h2)
          | (have d2 := h2)
        have HMY := Lib.hid h3
        clear h3
        (go_region_held3 (fun w' => Kept [] w6 w' ∧ (∀ o, w'.cell? ⟨w.heap.size, o, none⟩ = (#[.int .i64 x.ver, .int .i64 x.next, .slice A m c] : Array Value)[o]?) ∧ (∀ o, w'.cell? ⟨g, o, none⟩ = (#[.int .i64 y.ver, .int .i64 y.next, .slice A3 m3 c3] : Array Value)[o]?))
               (first | exact ⟨(Kept.refl [] _).drew, P.out.cell, N.out.cell⟩ | exact ⟨hkn, (P.out.kept hkn (by simp)).cell, (N.out.kept hkn (by simp)).cell⟩)
               (first
                | (go_at_call 12
                   rename_i hq _ _
                   refine (mMay_any _ y (Y.out _ hq.1)).mono ?_
                   rintro e w7 ⟨rfl, k1⟩
                   rw [HMY.out]
                   have hkn := hq.1.trans k1 (by simp)
                   clear k1)
                | (go_at_call 13
                   rename_i hq _ _
                   refine (mSame_any _ x y (H.out _ (K.out.trans hq.1 (by simp))) (Y.out _ hq.1)).mono ?_
                   rintro e w8 ⟨rfl, k1⟩
                   rw [HS.out]
                   have hkn := hq.1.trans k1 (by simp)
                   clear k1)
                | (go_at_call 6
                   rename_i hq _ _
                   refine (awake5_any _).mono ?_
                   rintro e w9 ⟨rfl, k1⟩
                   have hkn := hq.1.trans k1 (by simp)
                   clear k1)))
        all_goals
          go_wp2
          go_ret
          exact ⟨rfl, K.out.trans hkn (by simp)⟩
      · have HMY := Lib.hid h3
        have d1 : decide ((m3 : Int) ≤ 64) = false := decide_eq_false h1
        have d3 : decide (m3 ≤ 64) = false := decide_eq_false (by omega)
        have hcP := P.out.cell
        have hcN := N.out.cell
        clear h3
        first
        | (go_region_law ((first
            | (go_simp
               go_at_call 12
               go_must (refine (mMay_any _ y (Y.out _ (Kept.refl [] _).drew)).mono ?_)
               go_must (rintro e w7 ⟨rfl, k1⟩)
               go_must (rw [HMY.out])
               go_must (have hkn := Kept.trans (Kept.refl [] w6).drew k1 (by simp))
               go_must (have hcP := (P.out.kept hkn (by simp)).cell)
               go_must (have hcN := (N.out.kept hkn (by simp)).cell)
               go_must (clear k1))
            | (go_simp
               go_at_call 13
               go_must (refine (mSame_any _ x y (H.out _ (K.out.trans hkn (by simp))) (Y.out _ hkn)).mono ?_)
               go_must (rintro e w8 ⟨rfl, k1⟩)
               go_must (rw [HS.out])
               go_must (have hkn := hkn.trans k1 (by simp))
               go_must (clear k1))
            | (go_simp
               go_at_call 6
               go_must (refine (awake5_any _).mono ?_)
               go_must (rintro e w9 ⟨rfl, k1⟩)
               go_must (have hkn := hkn.trans k1 (by simp))
               go_must (clear k1)))))
        | fail
        all_goals
          go_wp2
          go_ret
          exact ⟨rfl, K.out.trans hkn (by simp)⟩
set_option maxRecDepth 100000 in
theorem ManifestGrows_walk {H : Type} {enc : TypeId × Value → H} {S : Prop} (W : World) (base : Nat) (v0 : Value) (d0 : DataW H) (p0 : List MemPlace)
    (hv0 : Value.okWide Try.prog W .any base 24 v0) (h0 : DataW.Trod enc Try.prog W 0 (fun _ => true) true 24 v0 d0 p0) (_ : S) :
    Calls Try.prog 4 #[v0] W fun e W' => e = .returned (.bool true) ∧ Below W.heap.size W W' := by
  obtain ⟨x, A, m, c, rfl, hx, -⟩ := open_man hv0 h0
  exact (ManifestGrows_any W x hx).mono fun e W' ⟨h, hk⟩ => ⟨h, hk.below (Nat.le_refl _) (by simp)⟩
end Go.Proofs.Ytflbeipnnmeiaaa
