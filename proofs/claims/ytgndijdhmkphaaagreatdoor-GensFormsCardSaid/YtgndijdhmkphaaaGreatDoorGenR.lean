/-
  gens.Without, without one number.
-/
import Derived.Laws.EntriesVeiled
import Derived.Test.YtgndijdhmkphaaaGreatDoorGenN
import Derived.Test.YtgndijdhmkphaaaGreatDoorGenL
namespace Go.Proofs.YtgndijdhmkphaaaGreatDoor
set_option linter.unusedVariables false
section
open Go.RowKit Go.ChangeShapes Go.WideShapes Go.ChangeAt Go.Deep
set_option maxRecDepth 100000
theorem decs_enc {w : World} {G : List Nat} {css : List (List Value)} {l : List BackD} (h : Decs BkDec w G css l) : css = l.map encB := by
  apply List.ext_getElem?
  intro i
  rw [List.getElem?_map]
  by_cases hi : i < l.length
  · have h1 : l[i]? = some l[i] := List.getElem?_eq_getElem hi
    have h2 : css[i]? = some (css[i]'(by rw [h.1]; exact hi)) := List.getElem?_eq_getElem _
    rw [h1, h2]
    exact congrArg some (h.2 i _ _ h2 h1)
  · rw [List.getElem?_eq_none (by rw [h.1]; omega), List.getElem?_eq_none (by omega)]; rfl
theorem BkV.row {W w : World} {v : Value} {l : List BackD} (h : BkV W w v l) : (v = .slice none 0 0 ∧ l = []) ∨ ∃ g cap, v = .slice (some ⟨g, 0, none⟩) l.length cap ∧ RowB w g cap l ∧ W.heap.size ≤ g := by
  obtain ⟨css, G, h⟩ := h
  have hn := h.new
  have ho := h.own
  rw [decs_enc h.decs] at ho
  rcases RowAt.of_own encB_len ho rfl with ⟨rfl, h2⟩ | ⟨g, cap, rfl, hr⟩
  · exact .inl ⟨rfl, h2⟩
  · exact .inr ⟨g, cap, rfl, hr, hn g (by simp [rowOf, Value.ownBlock])⟩
theorem RowB.bkv {W w : World} {g cap : Nat} {l : List BackD} (h : RowB w g cap l) (hg : W.heap.size ≤ g) (hk : Kept [] W w) : BkV W w (.slice (some ⟨g, 0, none⟩) l.length cap) l :=
  ⟨l.map encB, [], h.own encB_len, fun k hk => by simp [rowOf, Value.ownBlock] at hk; omega, ⟨by simp, fun i cs a h1 h2 => by
    rw [List.getElem?_map, h2] at h1
    injection h1 with h1
    exact h1.symm⟩, by simp, hk⟩
theorem BkArr.upto {w : World} {G : List Nat} {A : Option Addr} {m c : Nat} {l : List BackD} (h : BkArr w G (.slice A m c) l) (k : Nat) (hk : k ≤ m) : BkArr w G (.slice A k c) (l.take k) := by
  obtain ⟨A', m', c', e, h1, h2, h3, h4, h5⟩ := h
  injection e with e1 e2 e3
  subst e1 e2 e3
  refine ⟨A, k, c, rfl, by rw [List.length_take]; omega, by omega, h3, fun ha => ⟨by have := (h4 ha).1; omega, (h4 ha).2⟩, fun hne => ?_⟩
  obtain ⟨g, o, h6, h7, h8, h9⟩ := h5 (by rintro rfl; simp at hne)
  refine ⟨g, o, h6, h7, h8, fun i a hi => h9 i a ?_⟩
  rw [List.getElem?_take] at hi
  split at hi
  · exact hi
  · cases hi
set_option maxHeartbeats 800000 in
theorem Reverse_nil (w : World) : Calls Tryz.prog 34 #[.slice none 0 0] w fun e w' => e = .returned (.tuple #[]) ∧ Kept [] w w' := by
  go_enter Tryz.func34, Tryz.ntmps34
  go_wp2
  go_loopg [2, 3] (0 : Nat) (fun gg a b wr => a = .int .i64 0 ∧ b = .int .i64 (-1) ∧ wr = w)
  case atStart => exact ⟨rfl, rfl, rfl⟩
  case round =>
    obtain ⟨rfl, rfl, rfl⟩ := hrel
    go_wp2
    go_end0
    exact ⟨rfl, Kept.refl _ _⟩
set_option maxHeartbeats 800000 in
theorem ins_nil (w : World) : Calls Tryz.prog 66 #[.slice none 0 0, .int .i64 0, .int .i64 0, .func (.func 36) #[] #[]] w fun e w' => e = .returned (.tuple #[]) ∧ Kept [] w w' := by
  go_enter Tryz.func66, Tryz.ntmps66
  go_wp2
  go_loopg [8] (0 : Nat) (fun gg a wr => a = .int .i64 1 ∧ wr = w)
  case atStart => exact ⟨rfl, rfl⟩
  case round =>
    obtain ⟨rfl, rfl⟩ := hrel
    go_wp2
    go_end0
    exact ⟨rfl, Kept.refl _ _⟩
set_option maxHeartbeats 1600000 in
theorem Stable_nil (w : World) : Calls Tryz.prog 35 #[.slice none 0 0, .func (.func 36) #[] #[]] w fun e w' => e = .returned (.tuple #[]) ∧ Kept [] w w' := by
  have HS : Hid (Calls Tryz.prog 53 #[.slice none 0 0, .int .i64 0, .func (.func 36) #[] #[]] w fun e w' => e = .returned (.tuple #[]) ∧ Kept [] w w') := by
    refine Lib.hid ?_
    go_enter Tryz.func53, Tryz.ntmps53
    go_wp2
    go_loopg [7, 8] (0 : Nat) (fun gg b c wr => b = .int .i64 0 ∧ c = .int .i64 20 ∧ wr = w)
    case atStart => exact ⟨rfl, rfl, rfl⟩
    case round =>
      obtain ⟨rfl, rfl, rfl⟩ := hrel
      go_wp2_with (go_at_call 66; refine (ins_nil _).mono ?_; rintro e w1 ⟨rfl, hr⟩; have HR := Lib.hid hr; clear hr)
      go_loopg [6] (0 : Nat) (fun gg a wr => a = .int .i64 20 ∧ wr = w1)
      case atStart => exact ⟨rfl, rfl⟩
      case round =>
        obtain ⟨rfl, rfl⟩ := hrel
        go_wp2
        go_end0
        exact ⟨rfl, HR.out⟩
  go_enter Tryz.func35, Tryz.ntmps35
  go_wp2_with (go_at_call 53; refine HS.out.mono ?_; rintro e w1 ⟨rfl, hr⟩; have HR := Lib.hid hr; clear hr)
  go_end0
  exact ⟨rfl, HR.out⟩
set_option maxHeartbeats 800000 in
theorem Compact_nil (w : World) : Calls Tryz.prog 38 #[.slice none 0 0, .func (.func 39) #[] #[]] w fun e w' => e = .returned (.slice none 0 0) ∧ Kept [] w w' := by
  go_enter Tryz.func38, Tryz.ntmps38
  go_wp2
  go_ret
  exact ⟨rfl, Kept.refl _ _⟩
set_option maxHeartbeats 3200000 in
theorem gSort_at (w : World) {A : Option Addr} {m c : Nat} (l : List BackD) (n : Nat) (hn : Hid (min m 16 = n)) (hv : Hid (∀ w', Kept [] w w' → Calls Tryz.prog 33 #[.slice A n c] w' fun e w'' => ∃ v, e = .returned v ∧ BkV w' w'' v (l.take 16))) (hc : n ≤ c) (hm : m ≤ 1099511627776) :
    Calls Tryz.prog 13 #[.slice A m c] w fun e w' => ∃ v, e = .returned v ∧ BkV w w' v (sortB l) := by
  have hmin : (if (16 : Int) < (m : Int) then (16 : Int) else (m : Int)) = (n : Int) := by have := hn.out; split <;> omega
  have hmin2 : min (m : Int) 16 = (n : Int) := by have := hn.out; omega
  have i1 : (n : Int) ≤ (c : Int) := by omega
  go_enter Tryz.func13, Tryz.ntmps13
  go_wp2_with (first
    | (go_at_call 33
       go_must (refine (hv.out _ (Kept.refl _ _)).mono ?_)
       go_must (rintro e w1 ⟨v, rfl, hv1⟩)
       go_must (have V := Lib.hid hv1)
       go_must (clear hv1)))
  have Kw := Lib.hid (LV.kept V.out)
  rcases BkV.row V.out with ⟨rfl, hl0⟩ | ⟨g, cap, rfl, hr, hg⟩
  · have hs : sortB l = [] := by unfold sortB; rw [hl0]; simp [isortB, dedB]
    have HS := Lib.hid hs
    clear hs hl0 V
    go_wp2_with (first
      | (go_at_call 34
         go_must (refine (Reverse_nil _).mono ?_)
         go_must (rintro e w2 ⟨rfl, k2⟩)
         go_must (have Kw := Lib.hid (Kw.out.trans k2 (by simp)))
         go_must (clear k2))
      | (go_at_call 35
         go_must (refine (Stable_nil _).mono ?_)
         go_must (rintro e w3 ⟨rfl, k2⟩)
         go_must (have Kw := Lib.hid (Kw.out.trans k2 (by simp)))
         go_must (clear k2))
      | (go_at_call 38
         go_must (refine (Compact_nil _).mono ?_)
         go_must (rintro e w4 ⟨rfl, k2⟩)
         go_must (have Kw := Lib.hid (Kw.out.trans k2 (by simp)))
         go_must (clear k2)))
    go_ret
    exact ⟨_, rfl, by rw [HS.out]; exact LV.nil Kw.out⟩
  · have hlen : (l.take 16).length ≤ 16 := by rw [List.length_take]; omega
    have hs : sortB l = dedB (isortB (l.take 16).reverse) := rfl
    have HS := Lib.hid hs
    obtain ⟨l1, hl1⟩ : ∃ x, l.take 16 = x := ⟨_, rfl⟩
    rw [hl1] at hr hlen HS ⊢
    obtain ⟨q, hq⟩ : ∃ x, l1.length = x := ⟨_, rfl⟩
    have HQ := Lib.hid hq
    have HR := Lib.hid hr
    have C1 := Lib.hid (Reverse_row w1 g cap l1 hr)
    rw [hq] at C1 hlen ⊢
    obtain ⟨l2, hl2⟩ : ∃ x, l1.reverse = x := ⟨_, rfl⟩
    have hq2 : l2.length = q := by rw [← hl2, List.length_reverse]; exact hq
    rw [hl2] at C1 HS
    have C2 := Lib.hid (fun w' (hr : RowB w' g cap l2) => Stable_row w' g cap l2 hr (by omega))
    rw [hq2] at C2
    obtain ⟨l3, hl3⟩ : ∃ x, isortB l2 = x := ⟨_, rfl⟩
    have hq3 : l3.length = q := by rw [← hl3, (isort_perm l2).length_eq]; exact hq2
    rw [hl3] at C2 HS
    have C3 := Lib.hid (fun w' (hr : RowB w' g cap l3) => Compact_row w' g cap q l3 hr hq3 (by omega))
    have HG : Hid (w.heap.size ≤ g) := Lib.hid hg
    clear hr hq hl1 hl2 hl3 hq2 hq3 hs hg HQ HR V hv hn hmin hmin2
    go_wp2_with (first
      | (go_at_call 34
         go_must (refine C1.out.mono ?_)
         go_must (rintro e w2 ⟨rfl, r2, k2⟩)
         go_must (have R := Lib.hid r2)
         go_must (have Kw := Lib.hid (Kw.out.trans k2 (fun i hi => .inr (by have := HG.out; simp at hi; omega))))
         go_must (clear r2 k2))
      | (go_at_call 35
         go_must (refine (C2.out _ R.out).mono ?_)
         go_must (rintro e w3 ⟨rfl, r2, k2⟩)
         go_must (have R := Lib.hid r2)
         go_must (have Kw := Lib.hid (Kw.out.trans k2 (fun i hi => .inr (by have := HG.out; simp at hi; omega))))
         go_must (clear r2 k2))
      | (go_at_call 38
         go_must (refine (C3.out _ R.out).mono ?_)
         go_must (rintro e w4 ⟨rfl, r2, k2⟩)
         go_must (have R := Lib.hid r2)
         go_must (have Kw := Lib.hid (Kw.out.trans k2 (fun i hi => .inr (by have := HG.out; simp at hi; omega))))
         go_must (clear r2 k2)))
    go_ret
    exact ⟨_, rfl, by rw [HS.out]; exact RowB.bkv R.out HG.out Kw.out⟩
theorem gSort_any (w : World) {G : List Nat} {A : Option Addr} {m c : Nat} (l : List BackD) (h : BkArr w G (.slice A m c) l) (hG : ∀ k ∈ G, k < w.heap.size) (hm : m ≤ 1099511627776) :
    Calls Tryz.prog 13 #[.slice A m c] w fun e w' => ∃ v, e = .returned v ∧ BkV w w' v (sortB l) := by
  have hl := h.len
  refine gSort_at w l (min m 16) (Lib.hid rfl) (Lib.hid fun w' hk => ?_) (by omega) hm
  have h1 := BkArr.upto (BkArr.kept h hk (by simp)) (min m 16) (by omega)
  have h2 : l.take (min m 16) = l.take 16 := by
    rcases Nat.le_total m 16 with h3 | h3
    · rw [Nat.min_eq_left h3, List.take_of_length_le (by omega), List.take_of_length_le (by omega)]
    · rw [Nat.min_eq_right h3]
  rw [h2] at h1
  exact CloneB_any w' _ h1 (fun k hk' => Nat.lt_of_lt_of_le (hG k hk') hk.size) (by omega)
theorem weight_snoc (l : List BackD) (b : BackD) : weightB (l ++ [b]) = weightB l + (if wgtB b.weight = true then b.weight else 0) := by
  unfold weightB
  rw [List.map_append, List.sum_append, List.map_singleton, List.sum_singleton]
  congr 1
  have : wgtB b.weight = true ↔ 1 ≤ b.weight ∧ b.weight ≤ 10 := by simp [wgtB]
  by_cases h : 1 ≤ b.weight ∧ b.weight ≤ 10
  · rw [if_pos h, if_pos (this.2 h)]
  · rw [if_neg h, if_neg (fun e => h (this.1 e))]
set_option maxHeartbeats 1600000 in
theorem gWeight_any (w : World) {G : List Nat} {A : Option Addr} {m c : Nat} (l : List BackD) (h : BkArr w G (.slice A m c) l) (hm : m ≤ 1000000) :
    Calls Tryz.prog 18 #[.slice A m c] w fun e w' => e = .returned (.int .i64 (weightB l)) ∧ Kept [] w w' := by
  obtain ⟨a1, a2, a3, a4⟩ := h.len
  have H := Lib.hid h
  have A1 := Lib.hid a1
  clear h a1 a4
  unfold maxLen at a3
  go_enter Tryz.func18, Tryz.ntmps18
  go_wp2
  go_loopg [3, 8] m (fun g a i wr => ∃ (k : Nat) (s : Int), k ≤ m ∧ g = m - k ∧ i = .int .i64 k ∧ a = .int .i64 s ∧ 0 ≤ s ∧ s ≤ 10 * (k : Nat) ∧ weightB (l.take k) = s ∧ Kept [] w wr)
  case atStart => exact ⟨0, 0, by omega, by omega, rfl, rfl, by omega, by omega, by simp [weightB], Kept.refl _ _⟩
  case round =>
    obtain ⟨k, s, hk, rfl, rfl, rfl, s1, s2, hs, hkw⟩ := hrel
    have Hs := Lib.hid hs
    have Hkw := Lib.hid hkw
    clear hs hkw
    by_cases hlt : k < m
    · have hkl : k < l.length := by rw [A1.out]; exact hlt
      obtain ⟨g, o, rfl, hg, hgG, c0, c1, c2⟩ := (BkArr.kept H.out Hkw.out (by simp)).at (k := k) hkl
      have hw := weight_snoc (l.take k) (l[k]'hkl)
      rw [show l.take k ++ [l[k]'hkl] = l.take (k + 1) by rw [List.take_add_one, List.getElem?_eq_getElem hkl]; rfl, Hs.out] at hw
      generalize l[k]'hkl = b at *
      clear hkl
      have i0 : (0 : Int) ≤ (k : Int) := by omega
      have i2 : (k : Int) < (m : Int) := by omega
      cases d3 : wgtB b.weight
      · rw [d3, if_neg (by simp)] at hw
        have HW := Lib.hid hw
        have D3 := Lib.hid d3
        clear hw d3
        go_wp2_with (go_at_call 31; refine (weighed_any _ _).mono ?_; rintro e w2 ⟨rfl, rfl⟩; rw [D3.out])
        go_roundg (m - (k + 1))
        case measure => omega
        case rel => exact ⟨k + 1, s, by omega, rfl, by go_num, rfl, s1, by omega, by rw [HW.out]; omega, Hkw.out.alloc _⟩
      · have hb : 1 ≤ b.weight ∧ b.weight ≤ 10 := by simpa [wgtB] using d3
        rw [d3, if_pos rfl] at hw
        have HW := Lib.hid hw
        have D3 := Lib.hid d3
        have hwr : IntKind.i64.wrap (s + b.weight) = s + b.weight := IntWalk.i64_in _ (by omega)
        have hwr2 : wrap64 (s + b.weight) = s + b.weight := by unfold wrap64; omega
        clear hw d3
        go_wp2_with (go_at_call 31; refine (weighed_any _ _).mono ?_; rintro e w2 ⟨rfl, rfl⟩; rw [D3.out])
        go_roundg (m - (k + 1))
        case measure => omega
        case rel => exact ⟨k + 1, s + b.weight, by omega, rfl, by go_num, by first | rfl | rw [hwr2], by omega, by omega, HW.out, Hkw.out.alloc _⟩
    · have hres := Lib.hid (show weightB l = s by
        have := Hs.out
        rwa [List.take_of_length_le (by rw [A1.out]; omega)] at this)
      go_wp2
      go_ret
      exact ⟨by rw [hres.out]; rfl, Hkw.out⟩
theorem gSame_any (w : World) {G1 G2 : List Nat} {A B : Option Addr} {m c n d : Nat} (l l' : List BackD) (h1 : BkArr w G1 (.slice A m c) l) (h2 : BkArr w G2 (.slice B n d) l') :
    Calls Tryz.prog 17 #[.slice A m c, .slice B n d] w fun e w' => e = .returned (.bool (sameBs l l')) ∧ Kept [] w w' := by
  have H := Lib.hid (EqualB_any w l l' h1 h2)
  clear h1 h2
  go_enter Tryz.func17, Tryz.ntmps17
  go_wp2_with (go_at_call 42; refine H.out.mono ?_; rintro e w2 ⟨rfl, k2⟩; have K := Lib.hid k2; clear k2)
  go_ret
  exact ⟨rfl, K.out⟩
end
section
open Go.RowKit Go.ChangeShapes Go.WideShapes Go.ChangeAt Go.Deep
set_option maxRecDepth 100000
def findI (p : BackD → Bool) : List BackD → Int
  | [] => -1
  | b :: l => if p b then 0 else if findI p l < 0 then -1 else findI p l + 1
theorem findI_neg {p : BackD → Bool} : ∀ {l : List BackD}, (∀ b ∈ l, p b = false) → findI p l = -1
  | [], _ => rfl
  | b :: l, h => by rw [findI, if_neg (by simp [h b (by simp)]), findI_neg (fun c hc => h c (by simp [hc]))]; rfl
theorem findI_at {p : BackD → Bool} : ∀ {l : List BackD} {k : Nat} {b : BackD}, l[k]? = some b → p b = true → (∀ c ∈ l.take k, p c = false) → findI p l = (k : Int)
  | [], k, b, h, _, _ => by simp at h
  | c :: l, 0, b, h, hp, _ => by
    have e : c = b := by simpa using h
    rw [findI, e, if_pos hp]; rfl
  | c :: l, k + 1, b, h, hp, ha => by
    have e := findI_at (l := l) (k := k) (b := b) (by simpa using h) hp (fun x hx => ha x (by simp [hx]))
    rw [findI, if_neg (by simp [ha c (by simp)]), e, if_neg (by omega)]; omega
theorem findI_cases (p : BackD → Bool) (l : List BackD) : (findI p l = -1 ∧ ∀ b ∈ l, p b = false) ∨ ∃ (k : Nat) (b : BackD), findI p l = (k : Int) ∧ l[k]? = some b ∧ p b = true ∧ ∀ c ∈ l.take k, p c = false := by
  induction l with
  | nil => exact .inl ⟨rfl, by simp⟩
  | cons a l ih =>
    cases ha : p a
    · rcases ih with ⟨h1, h2⟩ | ⟨k, b, h1, h2, h3, h4⟩
      · refine .inl ⟨?_, fun b hb => ?_⟩
        · rw [findI, ha, h1]; rfl
        · rcases List.mem_cons.1 hb with rfl | hb
          · exact ha
          · exact h2 b hb
      · refine .inr ⟨k + 1, b, ?_, by simpa using h2, h3, fun c hc => ?_⟩
        · rw [findI, ha, h1, if_neg (by simp), if_neg (by omega)]; omega
        · rw [List.take_succ_cons] at hc
          rcases List.mem_cons.1 hc with rfl | hc
          · exact ha
          · exact h4 c hc
    · exact .inr ⟨0, a, by rw [findI, ha]; rfl, rfl, ha, by simp⟩
theorem snoc_all {p : BackD → Bool} {l : List BackD} {k : Nat} {b : BackD} (h : ∀ c ∈ l.take k, p c = false) (hb : l[k]? = some b) (hp : p b = false) : ∀ c ∈ l.take (k + 1), p c = false := by
  intro c hc
  rw [List.take_add_one, hb, List.mem_append] at hc
  rcases hc with hc | hc
  · exact h c hc
  · obtain rfl : c = b := by simpa using hc
    exact hp
set_option maxHeartbeats 1600000 in
theorem IndexFind (w : World) {G : List Nat} {A : Option Addr} {m c : Nat} (l : List BackD) (h : BkArr w G (.slice A m c) l) (cap : Value) (p : BackD → Bool)
    (hp : ∀ w' b, b ∈ l → Kept [] w w' → Calls Tryz.prog 23 #[.agg #[.int .i64 b.id, .int .u32 (b.addr.toNat : Nat), .int .i64 b.weight], cap] w' fun e w'' => e = .returned (.bool (p b)) ∧ Kept [] w' w'') :
    Calls Tryz.prog 22 #[.slice A m c, .func (.func 23) #[] #[cap]] w fun e w' => e = .returned (.int .i64 (findI p l)) ∧ Kept [] w w' := by
  obtain ⟨a1, a2, a3, a4⟩ := h.len
  have H := Lib.hid h
  have A1 := Lib.hid a1
  have HP := Lib.hid hp
  clear h a1 a4 hp
  unfold maxLen at a3
  go_enter Tryz.func22, Tryz.ntmps22
  go_wp2
  go_loopg [8] m (fun g i wr => ∃ k : Nat, k ≤ m ∧ g = m - k ∧ i = .int .i64 k ∧ (∀ c ∈ l.take k, p c = false) ∧ Kept [] w wr)
  case atStart => exact ⟨0, by omega, by omega, rfl, by simp, Kept.refl _ _⟩
  case round =>
    obtain ⟨k, hk, rfl, rfl, hs, hkw⟩ := hrel
    have Hs := Lib.hid hs
    have Hkw := Lib.hid hkw
    clear hs hkw
    by_cases hlt : k < m
    · have hkl : k < l.length := by rw [A1.out]; exact hlt
      obtain ⟨g, o, rfl, hg, hgG, c0, c1, c2⟩ := (BkArr.kept H.out Hkw.out (by simp)).at (k := k) hkl
      have HB := Lib.hid (List.getElem?_eq_getElem hkl)
      generalize l[k]'hkl = b at *
      clear hkl
      have i0 : (0 : Int) ≤ (k : Int) := by omega
      have i1 : (k : Int) < (m : Int) := by omega
      cases hb : p b
      · have hres := Lib.hid (snoc_all Hs.out HB.out hb)
        go_wp2_with (go_at_call 23; refine (HP.out _ b (List.mem_of_getElem? HB.out) Hkw.out).mono ?_; rintro e w2 ⟨rfl, hk2⟩; rw [hb]; have Hk2 := Lib.hid hk2; clear hk2)
        go_roundg (m - (k + 1))
        case measure => omega
        case rel => exact ⟨k + 1, by omega, rfl, by go_num, hres.out, Hkw.out.trans Hk2.out (by simp)⟩
      · have hres := Lib.hid (findI_at HB.out hb Hs.out)
        go_wp2_with (go_at_call 23; refine (HP.out _ b (List.mem_of_getElem? HB.out) Hkw.out).mono ?_; rintro e w2 ⟨rfl, hk2⟩; rw [hb]; have Hk2 := Lib.hid hk2; clear hk2)
        go_ret
        exact ⟨by rw [hres.out]; rfl, Hkw.out.trans Hk2.out (by simp)⟩
    · have hres := Lib.hid (findI_neg (p := p) (l := l) (by have := Hs.out; rwa [List.take_of_length_le (by rw [A1.out]; omega)] at this))
      go_wp2
      go_ret
      exact ⟨by rw [hres.out]; rfl, Hkw.out⟩
set_option maxHeartbeats 1600000 in
theorem IndexWith (w : World) {G : List Nat} {A : Option Addr} {m c : Nat} (l : List BackD) (h : BkArr w G (.slice A m c) l) (cap : Value) (p : BackD → Bool)
    (hp : ∀ w' b, b ∈ l → Kept [] w w' → Calls Tryz.prog 41 #[.agg #[.int .i64 b.id, .int .u32 (b.addr.toNat : Nat), .int .i64 b.weight], cap] w' fun e w'' => e = .returned (.bool (p b)) ∧ Kept [] w' w'') :
    Calls Tryz.prog 22 #[.slice A m c, .func (.func 41) #[] #[cap]] w fun e w' => e = .returned (.int .i64 (findI p l)) ∧ Kept [] w w' := by
  obtain ⟨a1, a2, a3, a4⟩ := h.len
  have H := Lib.hid h
  have A1 := Lib.hid a1
  have HP := Lib.hid hp
  clear h a1 a4 hp
  unfold maxLen at a3
  go_enter Tryz.func22, Tryz.ntmps22
  go_wp2
  go_loopg [8] m (fun g i wr => ∃ k : Nat, k ≤ m ∧ g = m - k ∧ i = .int .i64 k ∧ (∀ c ∈ l.take k, p c = false) ∧ Kept [] w wr)
  case atStart => exact ⟨0, by omega, by omega, rfl, by simp, Kept.refl _ _⟩
  case round =>
    obtain ⟨k, hk, rfl, rfl, hs, hkw⟩ := hrel
    have Hs := Lib.hid hs
    have Hkw := Lib.hid hkw
    clear hs hkw
    by_cases hlt : k < m
    · have hkl : k < l.length := by rw [A1.out]; exact hlt
      obtain ⟨g, o, rfl, hg, hgG, c0, c1, c2⟩ := (BkArr.kept H.out Hkw.out (by simp)).at (k := k) hkl
      have HB := Lib.hid (List.getElem?_eq_getElem hkl)
      generalize l[k]'hkl = b at *
      clear hkl
      have i0 : (0 : Int) ≤ (k : Int) := by omega
      have i1 : (k : Int) < (m : Int) := by omega
      cases hb : p b
      · have hres := Lib.hid (snoc_all Hs.out HB.out hb)
        go_wp2_with (go_at_call 41; refine (HP.out _ b (List.mem_of_getElem? HB.out) Hkw.out).mono ?_; rintro e w2 ⟨rfl, hk2⟩; rw [hb]; have Hk2 := Lib.hid hk2; clear hk2)
        go_roundg (m - (k + 1))
        case measure => omega
        case rel => exact ⟨k + 1, by omega, rfl, by go_num, hres.out, Hkw.out.trans Hk2.out (by simp)⟩
      · have hres := Lib.hid (findI_at HB.out hb Hs.out)
        go_wp2_with (go_at_call 41; refine (HP.out _ b (List.mem_of_getElem? HB.out) Hkw.out).mono ?_; rintro e w2 ⟨rfl, hk2⟩; rw [hb]; have Hk2 := Lib.hid hk2; clear hk2)
        go_ret
        exact ⟨by rw [hres.out]; rfl, Hkw.out.trans Hk2.out (by simp)⟩
    · have hres := Lib.hid (findI_neg (p := p) (l := l) (by have := Hs.out; rwa [List.take_of_length_le (by rw [A1.out]; omega)] at this))
      go_wp2
      go_ret
      exact ⟨by rw [hres.out]; rfl, Hkw.out⟩
theorem findClo_any (w : World) (b : BackD) (id : Int) (bx : Nat) (hb : w.cell? ⟨bx, 0, none⟩ = some (.int .i64 id)) :
    Calls Tryz.prog 23 #[.agg #[.int .i64 b.id, .int .u32 (b.addr.toNat : Nat), .int .i64 b.weight], .pointer (some ⟨bx, 0, none⟩)] w fun e w' => e = .returned (.bool (decide (b.id = id))) ∧ Kept [] w w' := by
  have hlt : bx < w.heap.size := World.block_lt_of_cell? w ⟨bx, 0, none⟩ hb
  have hb' : (w.alloc (.cells #[.int .i64 b.id, .int .u32 (b.addr.toNat : Nat), .int .i64 b.weight] 27)).cell? ⟨bx, 0, none⟩ = some (.int .i64 id) := (World.cell?_alloc_lt w _ ⟨bx, 0, none⟩ hlt).trans hb
  have K := Lib.hid ((Kept.refl [] w).alloc (.cells #[.int .i64 b.id, .int .u32 (b.addr.toNat : Nat), .int .i64 b.weight] 27))
  by_cases h : b.id = id
  all_goals
    have d : (b.id == id) = decide (b.id = id) := by by_cases h9 : b.id = id <;> simp [h9]
    cases hd : decide (b.id = id)
    all_goals
      rw [hd] at d
      have HD := Lib.hid hd
      clear h hd
      go_enter Tryz.func23, Tryz.ntmps23
      go_wp2
      go_ret
      exact ⟨by first | rfl | (have := HD.out; simp_all), K.out⟩
theorem find_findI {l : List BackD} {id : Int} : (findI (fun b => decide (b.id = id)) l = -1 ∧ findB l id = none) ∨ ∃ (k : Nat) (b : BackD), findI (fun b => decide (b.id = id)) l = (k : Int) ∧ l[k]? = some b ∧ findB l id = some b := by
  rcases findI_cases (fun b => decide (b.id = id)) l with ⟨h1, h2⟩ | ⟨k, b, h1, h2, h3, h4⟩
  · exact .inl ⟨h1, findB_none.2 fun b hb => by simpa using h2 b hb⟩
  · refine .inr ⟨k, b, h1, h2, ?_⟩
    have hk := (List.getElem?_eq_some_iff.1 h2).1
    have e : l = l.take k ++ l.drop k := (List.take_append_drop k l).symm
    rw [e, findB_app, findB_none.2 (fun c hc => by simpa using h4 c hc), show l.drop k = b :: l.drop (k + 1) by
      rw [← List.getElem_cons_drop (h := hk)]
      rw [List.getElem?_eq_getElem hk] at h2
      injection h2 with h2; rw [h2], findB_cons, if_pos (by simpa using h3)]
    rfl
set_option maxHeartbeats 1600000 in
theorem gFind_any (w : World) {G : List Nat} {A : Option Addr} {m c : Nat} (l : List BackD) (id : Int) (h : BkArr w G (.slice A m c) l) :
    Calls Tryz.prog 5 #[.slice A m c, .int .i64 id] w fun e w' => (∃ b, e = .returned (.tuple #[.agg #[.int .i64 b.id, .int .u32 (b.addr.toNat : Nat), .int .i64 b.weight], .bool (findB l id).isSome]) ∧ b = (findB l id).getD default) ∧ Kept [] w w' := by
  obtain ⟨a1, a2, a3, a4⟩ := h.len
  unfold maxLen at a3
  have A1 := Lib.hid a1
  have K0 := Lib.hid ((Kept.refl [] w).alloc (.cells #[.int .i64 id] 3))
  have K1 := Lib.hid (K0.out.alloc (.cells #[.int .i64 0, .int .u32 0, .int .i64 0] 27))
  have B0 := Lib.hid ((Blk.new w 3 #[.int .i64 id]).alloc (.cells #[.int .i64 0, .int .u32 0, .int .i64 0] 27))
  have B1 := Lib.hid (Blk.new (w.alloc (.cells #[.int .i64 id] 3)) 27 #[.int .i64 0, .int .u32 0, .int .i64 0])
  have hsz : (w.alloc (.cells #[.int .i64 id] 3)).heap.size = w.heap.size + 1 := by simp
  rw [hsz] at B1
  have HI := Lib.hid (IndexFind _ l (BkArr.kept h K1.out (by simp)) (.pointer (some ⟨w.heap.size, 0, none⟩)) (fun b => decide (b.id = id)) (fun w' b _ hk => findClo_any w' b id w.heap.size (by rw [hk.cell (p := ⟨w.heap.size, 0, none⟩) B0.out.lt (by simp)]; exact B0.out.cell 0)))
  have H := Lib.hid h
  clear h hsz a4 a1
  rcases find_findI (l := l) (id := id) with ⟨h1, h2⟩ | ⟨k, b, h1, h2, h3⟩
  · rw [h1] at HI
    have HF := Lib.hid h2
    clear h1 h2
    go_enter Tryz.func5, Tryz.ntmps5
    go_wp2_with (first
      | (go_at_call 22
         go_must (refine HI.out.mono ?_)
         go_must (rintro e w1 ⟨rfl, k1⟩)
         go_must (have B1 := Lib.hid (B1.out.kept k1 (by simp)))
         go_must (have K := Lib.hid (K1.out.trans k1 (by simp)))
         go_must (clear k1))
      | ((with_reducible show wpList _ _ _ ({ dst := none, op := Op.store 27 (.tmp 4) (.tmp 12), type := _, pos := _, after := _, guard := _ } :: _) _ _); refine wpList_put (t := 27) rfl 27 (.tmp 4) (.tmp 12) rfl _ (by rfl) (by rfl) (by exact B1.out) (by rfl) (by kernel_rfl) (by simp [Value.oneCell']) ?_; intro w9 hb9 hk9; have Hb9 := Lib.hid hb9; have Hk9 := Lib.hid hk9; clear hb9 hk9))
    refine bodyPost_ret (results_cell1 (t := 27) Tryz.results5 (by rfl) Hb9.out _ Tryz.underlying27 rfl (by kernel_rfl)) rfl ?_
    exact ⟨⟨default, by rw [HF.out]; rfl, by rw [HF.out]; rfl⟩, K.out.trans Hk9.out (fun i hi => .inr (by simp at hi; omega))⟩
  · rw [h1] at HI
    have HF := Lib.hid h3
    have HB := Lib.hid h2
    have hkl := (List.getElem?_eq_some_iff.1 h2).1
    obtain ⟨g, o, rfl, hg, hgG, _⟩ := BkArr.at H.out hkl
    have i0 : (0 : Int) ≤ (k : Int) := by omega
    have i1 : (k : Int) < (m : Int) := by have := A1.out; omega
    clear h1 h2 h3
    go_enter Tryz.func5, Tryz.ntmps5
    go_wp2_with (first
      | (go_at_call 22
         go_must (refine HI.out.mono ?_)
         go_must (rintro e w1 ⟨rfl, k1⟩)
         go_must (have B1 := Lib.hid (B1.out.kept k1 (by simp)))
         go_must (have K := Lib.hid (K1.out.trans k1 (by simp)))
         go_must (obtain ⟨g', o', heq, _, _, c0, c1, c2⟩ := BkArr.at (BkArr.kept H.out K.out (by simp)) hkl)
         go_must (injection heq with heq)
         go_must (injection heq with hh1 hh2 _)
         go_must (subst hh1 hh2)
         go_must (have hbb : l[k]'hkl = b := by have h9 := HB.out; rw [List.getElem?_eq_getElem hkl] at h9; exact Option.some.inj h9)
         go_must (rw [hbb] at c0 c1 c2)
         go_must (clear k1 hbb))
      | ((with_reducible show wpList _ _ _ ({ dst := none, op := Op.store 27 (.tmp 4) (.tmp 16), type := _, pos := _, after := _, guard := _ } :: _) _ _); refine wpList_put (t := 27) rfl 27 (.tmp 4) (.tmp 16) rfl _ (by rfl) (by rfl) (by exact B1.out) (by rfl) (by kernel_rfl) (by simp [Value.oneCell']) ?_; intro w9 hb9 hk9; have Hb9 := Lib.hid hb9; have Hk9 := Lib.hid hk9; clear hb9 hk9))
    refine bodyPost_ret (results_cell1 (t := 27) Tryz.results5 (by rfl) Hb9.out _ Tryz.underlying27 rfl (by kernel_rfl)) rfl ?_
    exact ⟨⟨b, by rw [HF.out]; rfl, by rw [HF.out]; rfl⟩, K.out.trans Hk9.out (fun i hi => .inr (by simp at hi; omega))⟩
theorem filt_all {p : BackD → Bool} {l : List BackD} (h : ∀ b ∈ l, p b = false) : l.filter (fun b => !p b) = l := List.filter_eq_self.2 fun b hb => by simp [h b hb]
theorem filt_snoc {p : BackD → Bool} {l : List BackD} {k : Nat} {b : BackD} (hb : l[k]? = some b) : (l.take (k + 1)).filter (fun b => !p b) = (l.take k).filter (fun b => !p b) ++ if p b then [] else [b] := by
  rw [List.take_add_one, hb, List.filter_append]
  congr 1
  cases hp : p b <;> simp [hp]
set_option maxHeartbeats 3200000 in
theorem Delete_row (w : World) (g0 cap n : Nat) (l : List BackD) (h : RowB w g0 cap l) (hl : l.length = n) (hn : n ≤ 100000) (cv : Value) (p : BackD → Bool)
    (hp : ∀ w' b, Kept [g0] w w' → Calls Tryz.prog 41 #[.agg #[.int .i64 b.id, .int .u32 (b.addr.toNat : Nat), .int .i64 b.weight], cv] w' fun e w'' => e = .returned (.bool (p b)) ∧ Kept [] w' w'') :
    Calls Tryz.prog 40 #[.slice (some ⟨g0, 0, none⟩) n cap, .func (.func 41) #[] #[cv]] w fun e w' =>
      e = .returned (.slice (some ⟨g0, 0, none⟩) (l.filter fun b => !p b).length cap) ∧ RowB w' g0 cap (l.filter fun b => !p b) ∧ Kept [g0] w w' := by
  have hle := h.le
  have hcap : n ≤ cap := by rw [← hl]; exact hle.1
  have hcm := hle.2
  unfold maxLen at hcm
  have harr : BkArr w [g0] (.slice (some ⟨g0, 0, none⟩) n cap) l := by
    refine ⟨_, n, cap, rfl, hl, hcap, by unfold maxLen; omega, by simp, fun _ => ⟨g0, 0, rfl, by simp, h.lt, fun i a hi => ⟨encB a, rfl, rfl, fun j hj => ?_⟩⟩⟩
    rw [Nat.zero_add]
    have hv : (encB a)[j]? = some ((encB a)[j]'(by rw [encB_len]; exact hj)) := List.getElem?_eq_getElem _
    rw [hv]
    exact RowAt.cell h hi hv
  have HI := Lib.hid (IndexWith w l harr cv p (fun w' b _ hk => hp w' b (hk.mono (by simp))))
  have R := Lib.hid h
  have L := Lib.hid hl
  have HP := Lib.hid hp
  clear h hle hl hp harr
  rcases findI_cases p l with ⟨h1, h2⟩ | ⟨k0, b0, h1, h2, h3, h4⟩
  · rw [h1] at HI
    have hf := Lib.hid (filt_all h2)
    clear h1 h2
    go_enter Tryz.func40, Tryz.ntmps40
    go_wp2_with (go_at_call 22; refine HI.out.mono ?_; rintro e w1 ⟨rfl, k1⟩; have K := Lib.hid k1; clear k1)
    go_ret
    exact ⟨by rw [hf.out, L.out]; rfl, by rw [hf.out]; exact R.out.kept K.out (by simp), K.out.mono (by simp)⟩
  · rw [h1] at HI
    have hk0 : k0 < n := by rw [← L.out]; exact (List.getElem?_eq_some_iff.1 h2).1
    have hs0 := filt_snoc (p := p) h2
    rw [h3, if_pos rfl, List.append_nil, filt_all h4] at hs0
    have HS0 := Lib.hid hs0
    have n1 : ((k0 : Int) == -1) = false := beq_false_of_ne (by omega)
    have n2 : ¬ (k0 : Int) = -1 := by omega
    clear h1 h2 h3 h4 hs0
    go_enter Tryz.func40, Tryz.ntmps40
    go_wp2_with (go_at_call 22; refine HI.out.mono ?_; rintro e w1 ⟨rfl, k1⟩; have K := Lib.hid k1; clear k1)
    have K1 := Lib.hid (K.out.mono (T := [g0]) (by simp))
    have R1 := Lib.hid (R.out.kept K.out (by simp))
    clear K R
    go_loopg [5, 6] (n - (k0 + 1)) (fun g a b wr => ∃ (i j : Nat) (cur : List BackD), k0 + 1 ≤ j ∧ j ≤ n ∧ g = n - j ∧ a = .int .i64 i ∧ b = .int .i64 j ∧ i < j ∧ cur.length = n ∧ cur.take i = (l.take j).filter (fun b => !p b) ∧ (∀ q, j ≤ q → cur[q]? = l[q]?) ∧ RowB wr g0 cap cur ∧ Kept [g0] w wr)
    case atStart => exact ⟨k0, k0 + 1, l, by omega, by omega, rfl, rfl, by go_num, by omega, L.out, HS0.out.symm, fun _ _ => rfl, R1.out, K1.out⟩
    case round =>
      clear K1 R1
      obtain ⟨i, j, cur, hj0, hj, rfl, rfl, rfl, hij, hcl, hct, hcu, hr, hkw⟩ := hrel
      have Hr := Lib.hid hr
      have Hk := Lib.hid hkw
      have CL := Lib.hid hcl
      have CT := Lib.hid hct
      have CU := Lib.hid hcu
      clear hr hkw hcl hct hcu
      by_cases hlt : j < n
      · obtain ⟨b, hb⟩ : ∃ b, l[j]? = some b := ⟨_, List.getElem?_eq_getElem (by rw [L.out]; exact hlt)⟩
        have HB := Lib.hid ((CU.out j (Nat.le_refl _)).trans hb)
        have hsn := filt_snoc (p := p) hb
        rw [← CT.out] at hsn
        obtain ⟨c0, c1, c2⟩ := RowB.at Hr.out HB.out
        have i1 : (j : Int) < (n : Int) := by omega
        have KA := Lib.hid (Hk.out.alloc (.cells #[.int .i64 b.id, .int .u32 (b.addr.toNat : Nat), .int .i64 b.weight] 27))
        have RA := Lib.hid (Hr.out.kept ((Kept.refl [] wr).alloc (.cells #[.int .i64 b.id, .int .u32 (b.addr.toNat : Nat), .int .i64 b.weight] 27)) (by simp))
        have BA := Lib.hid (Blk.new wr 27 #[.int .i64 b.id, .int .u32 (b.addr.toNat : Nat), .int .i64 b.weight])
        have hne : g0 ≠ wr.heap.size := by have := Hr.out.lt; omega
        clear hb
        cases hpb : p b
        · rw [hpb, if_neg (by simp)] at hsn
          have hset : (cur.set i b).take (i + 1) = cur.take i ++ [b] := by
            rw [List.take_add_one, List.take_set, List.set_eq_of_length_le (by rw [List.length_take]; omega), List.getElem?_set, if_pos rfl, if_pos (by rw [CL.out]; omega)]; rfl
          rw [← hset] at hsn
          have HSN := Lib.hid hsn
          have hic : i < cap := by omega
          have i3 : (i : Int) < (n : Int) := by omega
          clear hset hsn
          go_wp2_with (first
            | (go_at_call 41
               go_must (refine (HP.out _ b KA.out).mono ?_)
               go_must (rintro e w2 ⟨rfl, k2⟩)
               go_must (rw [hpb])
               go_must (have R2 := Lib.hid (RA.out.kept k2 (by simp)))
               go_must (have B2 := Lib.hid (BA.out.kept k2 (by simp)))
               go_must (have K2 := Lib.hid (KA.out.trans k2 (by simp)))
               go_must (have hcl := B2.out.cell)
               go_must (clear k2))
            | (with_reducible show wpList _ _ _ (({ dst := none, op := Op.store 27 (.tmp 33) (.tmp 32), type := _, pos := _, after := _, guard := _ } : Oper) :: _) _ _
               refine RowAt.wpList_set rfl 27 (.tmp 33) (.tmp 32) rfl encB_len R2.out (j := i) b (by rfl) rfl hic (by rfl) (by kernel_rfl) (encB_one b) ?_
               intro w3 hr2 hk2
               have R3 := Lib.hid hr2
               have K3 := Lib.hid (K2.out.trans hk2 (by simp))
               clear hr2 hk2 hcl))
          go_roundg (n - (j + 1))
          case measure => omega
          case rel => exact ⟨i + 1, j + 1, cur.set i b, by omega, by omega, rfl, by go_num, by go_num, by omega, by rw [List.length_set]; exact CL.out, HSN.out.symm, fun q hq => by rw [List.getElem?_set, if_neg (by omega)]; exact CU.out q (by omega), R3.out, K3.out⟩
        · rw [hpb, if_pos rfl, List.append_nil] at hsn
          have HSN := Lib.hid hsn
          clear hsn
          go_wp2_with (first
            | (go_at_call 41
               go_must (refine (HP.out _ b KA.out).mono ?_)
               go_must (rintro e w2 ⟨rfl, k2⟩)
               go_must (rw [hpb])
               go_must (have R2 := Lib.hid (RA.out.kept k2 (by simp)))
               go_must (have K2 := Lib.hid (KA.out.trans k2 (by simp)))
               go_must (clear k2)))
          go_roundg (n - (j + 1))
          case measure => omega
          case rel => exact ⟨i, j + 1, cur, by omega, by omega, rfl, rfl, by go_num, by omega, CL.out, HSN.out.symm, fun q hq => CU.out q (by omega), R2.out, K2.out⟩
      · have hde := CT.out
        rw [List.take_of_length_le (l := l) (by rw [L.out]; omega)] at hde
        have HDE := Lib.hid hde
        have HDL := Lib.hid (show (l.filter fun b => !p b).length = i by rw [← hde, List.length_take, CL.out]; omega)
        obtain ⟨d, hdd⟩ : ∃ d, n - i = d := ⟨_, rfl⟩
        have i2 : ¬ (j : Int) < (n : Int) := by omega
        have i6 : (i : Int) ≤ (n : Int) := by omega
        obtain ⟨w2, hrun, hr2, hk2⟩ := RowAt.run_clear (k := 3) (P := Tryz.prog) (t := 22) (ty := 0) Tryz.underlying22 Tryz.zeroValue27 rfl (by simp [Value.cells, Value.oneCell']) (by omega) encB_len Hr.out i d (cap - i) (by omega)
        rw [HDE.out] at hr2
        have Hr2 := Lib.hid hr2
        have Hk2 := Lib.hid (Hk.out.trans hk2 (by simp))
        clear hr2 hk2 hde
        go_wp2
        go_ret
        exact ⟨by rw [HDL.out]; rfl, Hr2.out, Hk2.out⟩
set_option maxHeartbeats 800000 in
theorem Delete_nil (w : World) (cv : Value) : Calls Tryz.prog 40 #[.slice none 0 0, .func (.func 41) #[] #[cv]] w fun e w' => e = .returned (.slice none 0 0) ∧ Kept [] w w' := by
  have HI := Lib.hid (IndexWith w (G := []) [] ⟨none, 0, 0, rfl, rfl, Nat.le_refl _, by unfold maxLen; omega, by simp, fun h => absurd rfl h⟩ cv (fun _ => false) (fun w' b hb hk => by cases hb))
  go_enter Tryz.func40, Tryz.ntmps40
  go_wp2_with (go_at_call 22; refine HI.out.mono ?_; rintro e w1 ⟨rfl, k1⟩; have K := Lib.hid k1; clear k1)
  go_ret
  exact ⟨rfl, K.out⟩
end
section
open Go.RowKit Go.ChangeShapes Go.WideShapes Go.ChangeAt Go.Deep
set_option maxRecDepth 100000
end
end Go.Proofs.YtgndijdhmkphaaaGreatDoor
