/-
  gens.Text.
-/
import Derived.Deep.RegionLawGrows
import Derived.Test.YtgndijdhmkphaaaGreatDoorGenN
import Derived.Test.YtgndijdhmkphaaaGreatDoorTupA
import Derived.Test.YtgndijdhmkphaaaGreatDoorTupH
namespace Go.Proofs.YtgndijdhmkphaaaGreatDoor
set_option linter.unusedVariables false
section
open Go.RowKit
set_option maxRecDepth 100000
def backT (b : BackD) : List UInt8 := Lib.itoa b.id ++ (64 :: (addrF b.addr ++ (42 :: Lib.itoa b.weight)))
def textB (l : List BackD) : List UInt8 := if l = [] then [45] else Lib.join (l.map backT) [44]
theorem backT_no (b : BackD) {s : UInt8} (h : ¬ (48 ≤ s.toNat ∧ s.toNat ≤ 57)) (h1 : s ≠ 45) (h2 : s ≠ 46) (h3 : s ≠ 64) (h4 : s ≠ 42) : s ∉ backT b := by
  unfold backT
  simp only [List.mem_append, List.mem_cons, not_or]
  exact ⟨itoa_no _ h h1, h3, addr_no _ h h2, h4, itoa_no _ h h1⟩
theorem backT_cut1 (b : BackD) : Lib.cut (backT b) [64] = (Lib.itoa b.id, addrF b.addr ++ (42 :: Lib.itoa b.weight), true) := cut_at _ _ _ (itoa_no _ (by decide) (by decide))
theorem backT_cut2 (b : BackD) : Lib.cut (addrF b.addr ++ (42 :: Lib.itoa b.weight)) [42] = (addrF b.addr, Lib.itoa b.weight, true) := cut_at _ _ _ (addr_no _ (by decide) (by decide))
theorem backT_len {b : BackD} (h1 : inI b.id) (h2 : inI b.weight) : (backT b).length ≤ 57 := by
  have a := itoa_len h1
  have c := itoa_len h2
  have d := addrF_len b.addr
  unfold backT
  simp only [List.length_append, List.length_cons]
  omega
theorem join_cons2 (x y : List UInt8) (r : List (List UInt8)) : Lib.join (x :: y :: r) [44] = x ++ (44 :: Lib.join (y :: r) [44]) := by
  rw [Lib.join_cons, Lib.join_cons]
  simp [Lib.joinTail]
theorem join_count : ∀ (l : List (List UInt8)), (∀ x ∈ l, (44 : UInt8) ∉ x) → l ≠ [] → Lib.count (Lib.join l [44]) [44] = l.length - 1
  | [], _, h => absurd rfl h
  | [x], hx, _ => by rw [Lib.join_one, count_no _ _ (hx x (by simp))]; rfl
  | x :: y :: r, hx, _ => by
    rw [join_cons2, count_at _ _ _ (hx x (by simp)), join_count (y :: r) (fun z hz => hx z (by simp [hz])) (by simp)]
    simp only [List.length_cons]; omega
theorem join_split : ∀ (l : List (List UInt8)), (∀ x ∈ l, (44 : UInt8) ∉ x) → l ≠ [] → Lib.splitK [44] 0 (l.length - 1) (Lib.join l [44]) = l
  | [], _, h => absurd rfl h
  | [x], hx, _ => by rw [Lib.join_one]; rfl
  | x :: y :: r, hx, _ => by
    have ih := join_split (y :: r) (fun z hz => hx z (by simp [hz])) (by simp)
    rw [join_cons2, show (x :: y :: r).length - 1 = ((y :: r).length - 1) + 1 by simp only [List.length_cons]; omega, splitK_hit _ _ _ _ (hx x (by simp)), ih]
theorem join_len {l : List BackD} (h : ∀ b ∈ l, inI b.id ∧ inI b.weight) : (Lib.join (l.map backT) [44]).length ≤ 58 * l.length := by
  cases l with
  | nil => simp [Lib.join, List.intercalate]
  | cons a l =>
    rw [List.map_cons, Lib.join_cons, List.length_append]
    have ha := h a (by simp)
    have h1 := backT_len ha.1 ha.2
    have h2 : (Lib.joinTail [44] (l.map backT)).length ≤ 58 * l.length := by
      clear h1
      unfold Lib.joinTail
      induction l with
      | nil => simp
      | cons b l ih =>
        have hb := h b (by simp)
        have h3 := backT_len hb.1 hb.2
        have := ih (fun c hc => h c (by rcases List.mem_cons.1 hc with rfl | hc <;> simp [*]))
        simp only [List.map_cons, List.flatten_cons, List.length_append, List.length_cons, List.length_nil] at this ⊢
        omega
    simp only [List.length_cons]
    omega
theorem split_inj : ∀ {l m : List ByteArray}, l.map (·.data.toList) = m.map (·.data.toList) → l = m
  | [], [], _ => rfl
  | [], y :: m, e => by cases e
  | x :: l, [], e => by cases e
  | x :: l, y :: m, e => by
    rw [List.map_cons, List.map_cons, List.cons.injEq] at e
    have hx : x = y := by
      cases x; cases y
      exact congrArg ByteArray.mk (Array.toList_inj.1 e.1)
    rw [hx, split_inj e.2]
theorem text_count {l : List BackD} (hl : l ≠ []) : Lib.countB (strOf (textB l)) ⟨#[44]⟩ = l.length - 1 := by
  show Lib.count (strOf (textB l)).data.toList [44] = _
  rw [strOf_list, textB, if_neg hl, join_count _ (fun x hx => by obtain ⟨b, _, rfl⟩ := List.mem_map.1 hx; exact backT_no b (by decide) (by decide) (by decide) (by decide) (by decide)) (by simpa using hl), List.length_map]
theorem text_split {l : List BackD} (hl : l ≠ []) : Lib.splitB ⟨#[44]⟩ 0 (l.length - 1) (strOf (textB l)) = l.map fun b => strOf (backT b) := by
  refine split_inj ?_
  rw [Lib.splitB_data, strOf_list, textB, if_neg hl]
  have := join_split (l.map backT) (fun x hx => by obtain ⟨b, _, rfl⟩ := List.mem_map.1 hx; exact backT_no b (by decide) (by decide) (by decide) (by decide) (by decide)) (by simpa using hl)
  rw [List.length_map] at this
  rw [show (⟨#[44]⟩ : ByteArray).data.toList = [44] from rfl, this]
  simp [strOf]
theorem text_dash {l : List BackD} (hl : l ≠ []) : textB l ≠ [45] := by
  rw [textB, if_neg hl]
  intro e
  cases l with
  | nil => exact hl rfl
  | cons a l =>
    rw [List.map_cons, Lib.join_cons] at e
    have : (64 : UInt8) ∈ backT a ++ Lib.joinTail [44] (l.map backT) := by unfold backT; simp
    rw [e] at this
    exact absurd this (by decide)
end
section
open Go.RowKit Go.ChangeShapes Go.WideShapes Go.ChangeAt Go.Deep
set_option maxRecDepth 100000
theorem back_cat (a b c : List UInt8) : (((((strOf a ++ ⟨#[64]⟩) ++ strOf b) ++ ⟨#[42]⟩) ++ strOf c) : ByteArray) = strOf (a ++ (64 :: (b ++ (42 :: c)))) := by
  apply ByteArray.ext
  simp [strOf, ByteArray.data_append]
def numB (b : BackD) : Prop := inI b.id ∧ inI b.weight
set_option maxHeartbeats 6400000 in
theorem gText_any (w : World) {G : List Nat} {A : Option Addr} {m c : Nat} (l : List BackD) (h : BkArr w G (.slice A m c) l) (hm : m ≤ 1000) (hl : ∀ b ∈ l, numB b) (ht : PowTab w) :
    Calls Tryz.prog 20 #[.slice A m c] w fun e w' => e = .returned (.string (strOf (textB l))) ∧ Kept [] w w' := by
  have HT := Lib.hid (fun w' (hk : Kept [] w w') => tab_kept ht (g := 3) (by kernel_rfl) hk (by simp))
  obtain ⟨a1, a2, a3, a4⟩ := h.len
  have H := Lib.hid h
  have A1 := Lib.hid a1
  have HL := Lib.hid hl
  clear h a1 a4 ht hl
  unfold maxLen at a3
  by_cases h0 : m = 0
  · have hres := Lib.hid (show textB l = [45] by
      have : l = [] := List.eq_nil_of_length_eq_zero (A1.out.trans h0)
      rw [this]; rfl)
    have i1 : ((m : Int) == 0) = true := by simp [h0]
    have i2 : (m : Int) = 0 := by omega
    subst h0
    go_enter Tryz.func20, Tryz.ntmps20
    go_wp2
    go_ret
    exact ⟨by rw [hres.out]; rfl, Kept.refl _ _⟩
  · have i1 : ((m : Int) == 0) = false := beq_false_of_ne (by omega)
    have i2 : ¬ (m : Int) = 0 := by omega
    have i3 : ¬ m = 0 := h0
    go_enter Tryz.func20, Tryz.ntmps20
    go_wp2
    go_loopg [3, 11] m (fun g v i wr => ∃ k : Nat, k ≤ m ∧ g = m - k ∧ i = .int .i64 k ∧ New w 9 1 v k ((l.take k).map fun b => .string (strOf (backT b))) wr)
    case atStart => exact ⟨0, by omega, by omega, rfl, New.nil _ _ _⟩
    case round =>
      obtain ⟨k, hk, rfl, rfl, hn⟩ := hrel
      have N := Lib.hid hn
      have Hkw := Lib.hid hn.2.1
      clear hn
      obtain ⟨vA, vn, vc, rfl⟩ := Own.form' N.out.1
      by_cases hlt : k < m
      · have hkl : k < l.length := by rw [A1.out]; exact hlt
        obtain ⟨g, o, rfl, hg, hgG, c0, c1, c2⟩ := (BkArr.kept H.out Hkw.out (by simp)).at (k := k) hkl
        have HB := Lib.hid (show l.take (k + 1) = l.take k ++ [l[k]'hkl] by rw [List.take_add_one, List.getElem?_eq_getElem hkl]; rfl)
        have hnum := HL.out _ (List.getElem_mem hkl)
        generalize l[k]'hkl = b at *
        clear hkl
        obtain ⟨⟨n1, n2⟩, n3, n4⟩ := hnum
        have i4 : (0 : Int) ≤ (k : Int) := by omega
        have i5 : (k : Int) < (m : Int) := by omega
        obtain ⟨si, hsi⟩ : ∃ s, strOf (Lib.itoa b.id) = s := ⟨_, rfl⟩
        obtain ⟨sa, hsa⟩ : ∃ s, strOf (addrF b.addr) = s := ⟨_, rfl⟩
        obtain ⟨sj, hsj⟩ : ∃ s, strOf (Lib.itoa b.weight) = s := ⟨_, rfl⟩
        have zi : si.size ≤ 20 := by rw [← hsi, strOf_size]; exact itoa_len ⟨n1, n2⟩
        have za : sa.size ≤ 15 := by rw [← hsa, strOf_size]; exact addrF_len _
        have zj : sj.size ≤ 20 := by rw [← hsj, strOf_size]; exact itoa_len ⟨n3, n4⟩
        have EI := Lib.hid hsi
        have EA := Lib.hid hsa
        have EJ := Lib.hid hsj
        have HC := Lib.hid (show (((((si ++ ⟨#[64]⟩) ++ sa) ++ ⟨#[42]⟩) ++ sj) : ByteArray) = strOf (backT b) by rw [← hsi, ← hsa, ← hsj, back_cat]; rfl)
        clear hsi hsa hsj
        have z1 : (9223372036854775807 < si.size + 1) = False := eq_false (by omega)
        have z2 : (9223372036854775807 < si.size + 1 + sa.size) = False := eq_false (by omega)
        have z3 : (9223372036854775807 < si.size + 1 + sa.size + 1) = False := eq_false (by omega)
        have z4 : (9223372036854775807 < si.size + 1 + sa.size + 1 + sj.size) = False := eq_false (by omega)
        go_wp2
        have B := Lib.hid (Blk.new wr 27 #[.int .i64 b.id, .int .u32 (b.addr.toNat : Nat), .int .i64 b.weight])
        have N1 := Lib.hid (N.out.go ((Kept.refl [] wr).alloc (.cells #[.int .i64 b.id, .int .u32 (b.addr.toNat : Nat), .int .i64 b.weight] 27)))
        have K := Lib.hid N1.out.2.1
        generalize wr.alloc (.cells #[.int .i64 b.id, .int .u32 (b.addr.toNat : Nat), .int .i64 b.weight] 27) = w0 at B N1 K ⊢
        clear c0 c1 c2 N
        have hcB := B.out.cell
        go_region_law ((first
          | (go_simp
             go_at_call 43
             first
               | (with_reducible refine (Itoa_any (w := w0.drew) b.id n1 n2 (HT.out _ (K.out.drew))).mono ?_
                  rintro e w1 ⟨rfl, k1⟩
                  rw [EI.out]
                  have kN := (((Kept.refl [] w0).drew).trans k1 (by simp))
                  have N1 := Lib.hid (N1.out.go kN)
                  have K := Lib.hid N1.out.2.1
                  have B := Lib.hid (B.out.kept kN (by simp))
                  have hcB := B.out.cell
                  clear k1 kN)
               | (refine (Itoa_any _ b.weight n3 n4 (HT.out _ K.out)).mono ?_
                  rintro e w3 ⟨rfl, k1⟩
                  rw [EJ.out]
                  have N1 := Lib.hid (N1.out.go k1)
                  have K := Lib.hid N1.out.2.1
                  have B := Lib.hid (B.out.kept k1 (by simp))
                  have hcB := B.out.cell
                  clear k1))
          | (go_simp
             go_at_call 44
             refine (Addr_any _ b.addr (HT.out _ K.out)).mono ?_
             rintro e w2 ⟨rfl, k1⟩
             rw [EA.out]
             have N1 := Lib.hid (N1.out.go k1)
             have K := Lib.hid N1.out.2.1
             have B := Lib.hid (B.out.kept k1 (by simp))
             have hcB := B.out.cell
             clear k1)
          | (refine step_app _ rfl (.tmp 15) (.tmp 29) 43 rfl elem_str (by first | (simp [Act.eval]; done) | (simp [Act.eval]; rfl)) (N1.out.1.alloc _) (by first | (simp [Act.eval]; rfl) | (simp [Act.eval]; done)) (Rd.one _ _ _) rfl (by simp [Value.oneCell']) (by unfold maxLen; omega) (by omega) ?_
             intro v9 w9 ho hk9 hr9
             have N9 := Lib.hid (show New w 9 1 v9 (k + 1) ((l.take (k + 1)).map fun b => .string (strOf (backT b))) w9 from ⟨by
               rw [HB.out, List.map_append, List.map_singleton, ← HC.out]
               exact ho, (N1.out.2.1.alloc _).trans hk9 (fun i hi => .inr (N1.out.2.2 i hi)), fun i hi => (hr9 i hi).elim (fun h => N1.out.2.2 i h) (fun h => by have := N1.out.2.1.size; simp at h; omega)⟩)
             clear ho hk9 hr9)))
        all_goals
          clear hcB z1 z2 z3 z4
          go_wp2
          go_roundg (m - (k + 1))
          case measure => omega
          case rel => exact ⟨k + 1, by omega, rfl, by go_num, N9.out⟩
      · have hkm : k = m := by omega
        have hne : l ≠ [] := by
          rintro rfl
          have := A1.out
          simp at this; omega
        have htx : textB l = Lib.join (l.map backT) [44] := by unfold textB; rw [if_neg hne]
        have htk : l.take k = l := List.take_of_length_le (by rw [A1.out]; omega)
        have hN := N.out.1
        rw [htk] at hN
        obtain ⟨A', c', he, h1, h2, hrd, -⟩ := Rd.of_own hN
        injection he with he1 he2 he3
        subst he1 he2 he3
        obtain ⟨g, o, rfl, hc⟩ := hrd (by simpa using hne)
        have hg := hN.lt g (by
          rcases hN.2 with ⟨h, _⟩ | ⟨g', cap', cur, h, _⟩
          · cases h
          · injection h with e1 e2 e3; injection e1 with e1; injection e1 with e1 e4; subst e1; simp [rowOf, Value.ownBlock])
        have e : ((l.map fun b => strOf (backT b)).map (·.data.toList)) = l.map backT := by simp [strOf]
        have hjl := join_len (l := l) (fun b hb => HL.out b hb)
        have HJ := Tryz.strings_Join g o vc (l.map fun b => strOf (backT b)) ⟨#[44]⟩ wr (fun j x hx => hc j _ (by
            rw [List.getElem?_map] at hx ⊢
            cases hh : l[j]? with
            | none => rw [hh] at hx; cases hx
            | some y => rw [hh] at hx; simp at hx ⊢; exact hx)) hg (by simp [A1.out]; omega) (by simp [A1.out]; omega) (by
            rw [e]
            show (Lib.join (l.map backT) [44]).length ≤ _
            have := A1.out
            omega)
        rw [e, List.length_map, A1.out] at HJ
        have HJ := Lib.hid (show Calls Tryz.prog 45 #[.slice (some ⟨g, o, none⟩) m vc, .string ⟨#[44]⟩] wr fun e w' => e = .returned (.string (strOf (textB l))) ∧ Below wr.heap.size wr w' from by rw [htx]; exact HJ)
        subst hkm
        clear hc e h1 h2 hrd hjl htx htk hne hN hg
        go_wp2_with (go_at_call 45
                     go_must (refine HJ.out.mono ?_)
                     go_must (rintro e w3 ⟨rfl, hb⟩)
                     go_must (have K := Lib.hid (Hkw.out.trans (Kept.of_below hb) (by simp)))
                     go_must (clear hb))
        go_ret
        exact ⟨rfl, K.out⟩
end
end Go.Proofs.YtgndijdhmkphaaaGreatDoor
