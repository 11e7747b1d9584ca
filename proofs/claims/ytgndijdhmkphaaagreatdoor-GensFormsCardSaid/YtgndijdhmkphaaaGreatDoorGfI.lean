/-
  The document's Weight and FindBackend. (GensForms)
-/
import Derived.Test.YtgndijdhmkphaaaGreatDoorGenR
namespace Go.Proofs.YtgndijdhmkphaaaGreatDoor
set_option linter.unusedVariables false
section
open Go.RowKit Go.ChangeShapes Go.WideShapes Go.ChangeAt Go.Deep
set_option maxRecDepth 100000
set_option maxHeartbeats 1600000 in
theorem rWeight_any (w : World) {G : List Nat} {A : Option Addr} {m c : Nat} (l : List BackD) (h : BkArr w G (.slice A m c) l) (hm : m ≤ 1000000) :
    Calls Tryz.prog 19 #[.slice A m c] w fun e w' => e = .returned (.int .i64 (weightB l)) ∧ Kept [] w w' := by
  obtain ⟨a1, a2, a3, a4⟩ := h.len
  have H := Lib.hid h
  have A1 := Lib.hid a1
  clear h a1 a4
  unfold maxLen at a3
  go_enter Tryz.func19, Tryz.ntmps19
  go_wp2
  go_loopg [3, 8] m (fun g a i wr => ∃ (k : Nat) (s : Int), k ≤ m ∧ g = m - k ∧ i = .int .i64 k ∧ a = .int .i64 s ∧ 0 ≤ s ∧ s ≤ 10 * (k : Nat) ∧ weightB (l.take k) = s ∧ Kept [] w wr)
  case atStart => exact ⟨0, 0, by omega, by omega, rfl, rfl, by omega, by omega, by simp [weightB], Kept.refl _ _⟩
  case round =>
    obtain ⟨k, s, hk, rfl, rfl, rfl, s1, s2, hs, hkw⟩ := hrel
    have Hs := Lib.hid hs
    have Hkw := Lib.hid hkw
    clear hs hkw
    by_cases hlt : k < m
    · have hkl : k < l.length := by rw [A1.out]; exact hlt
      obtain ⟨g, o, rfl, hg, hgG, c0, c1, c2⟩ := (BkArr.kept H.out Hkw.out (by simp)).at (k := k) hkl
      have hw := weight_snoc (l.take k) (l[k]'hkl)
      rw [show l.take k ++ [l[k]'hkl] = l.take (k + 1) by rw [List.take_add_one, List.getElem?_eq_getElem hkl]; rfl, Hs.out] at hw
      generalize l[k]'hkl = b at *
      clear hkl
      have i0 : (0 : Int) ≤ (k : Int) := by omega
      have i2 : (k : Int) < (m : Int) := by omega
      by_cases w1 : 1 ≤ b.weight
      · by_cases w2 : b.weight ≤ 10
        · have d3 : wgtB b.weight = true := by simp [wgtB, w1, w2]
          rw [d3, if_pos rfl] at hw
          have HW := Lib.hid hw
          have hwr : IntKind.i64.wrap (s + b.weight) = s + b.weight := IntWalk.i64_in _ (by omega)
          have hwr2 : wrap64 (s + b.weight) = s + b.weight := by unfold wrap64; omega
          clear hw d3
          go_wp2
          go_roundg (m - (k + 1))
          case measure => omega
          case rel => exact ⟨k + 1, s + b.weight, by omega, rfl, by go_num, by first | rfl | rw [hwr2], by omega, by omega, HW.out, Hkw.out.alloc _⟩
        · have d3 : wgtB b.weight = false := by simp [wgtB, w2]
          rw [d3, if_neg (by simp)] at hw
          have HW := Lib.hid hw
          clear hw d3
          go_wp2
          go_roundg (m - (k + 1))
          case measure => omega
          case rel => exact ⟨k + 1, s, by omega, rfl, by go_num, rfl, s1, by omega, by rw [HW.out]; omega, Hkw.out.alloc _⟩
      · have d3 : wgtB b.weight = false := by simp [wgtB, w1]
        rw [d3, if_neg (by simp)] at hw
        have HW := Lib.hid hw
        clear hw d3
        go_wp2
        go_roundg (m - (k + 1))
        case measure => omega
        case rel => exact ⟨k + 1, s, by omega, rfl, by go_num, rfl, s1, by omega, by rw [HW.out]; omega, Hkw.out.alloc _⟩
    · have hres := Lib.hid (show weightB l = s by
        have := Hs.out
        rwa [List.take_of_length_le (by rw [A1.out]; omega)] at this)
      go_wp2
      go_ret
      exact ⟨by rw [hres.out]; rfl, Hkw.out⟩
theorem findB_snoc {l : List BackD} {b : BackD} {id : Int} (h : findB l id = none) : findB (l ++ [b]) id = if b.id = id then some b else none := by
  rw [findB_app, h, findB_cons, findB_nil]; rfl
theorem findB_pre {l m : List BackD} {b : BackD} {id : Int} (h : findB l id = some b) : findB (l ++ m) id = some b := by
  rw [findB_app, h]; rfl
set_option maxHeartbeats 1600000 in
theorem rFind_any (w : World) {G : List Nat} {A : Option Addr} {m c : Nat} (l : List BackD) (id : Int) (h : BkArr w G (.slice A m c) l) :
    Calls Tryz.prog 6 #[.slice A m c, .int .i64 id] w fun e w' => (∃ b, e = .returned (.tuple #[.agg #[.int .i64 b.id, .int .u32 (b.addr.toNat : Nat), .int .i64 b.weight], .bool (findB l id).isSome]) ∧ b = (findB l id).getD default) ∧ Kept [] w w' := by
  obtain ⟨a1, a2, a3, a4⟩ := h.len
  unfold maxLen at a3
  have H := Lib.hid h
  have A1 := Lib.hid a1
  have hk0 : Kept [] w (w.alloc (.cells #[.int .i64 0, .int .u32 0, .int .i64 0] 27)) := (Kept.refl [] _).alloc _
  have B0 := Lib.hid (Blk.new w 27 #[.int .i64 0, .int .u32 0, .int .i64 0])
  have K0 := Lib.hid hk0
  clear h a1 a4 hk0
  go_enter Tryz.func6, Tryz.ntmps6
  go_wp2
  go_loopg [10] m (fun g i wr => ∃ k : Nat, k ≤ m ∧ g = m - k ∧ i = .int .i64 k ∧ Hid (findB (l.take k) id = none) ∧ Blk wr w.heap.size 27 #[.int .i64 0, .int .u32 0, .int .i64 0] ∧ Kept [] w wr)
  case atStart => exact ⟨0, by omega, by omega, rfl, Lib.hid (by simp [findB]), B0.out, K0.out⟩
  case round =>
    obtain ⟨k, hk, rfl, rfl, hF, hb, hkw⟩ := hrel
    have BR := Lib.hid hb
    have Hkw := Lib.hid hkw
    have hsz := hkw.size
    have hlr := hb.lt
    clear hb hkw
    by_cases hlt : k < m
    · have hkl : k < l.length := by rw [A1.out]; exact hlt
      obtain ⟨g, o, rfl, hg, hgG, c0, c1, c2⟩ := (BkArr.kept H.out Hkw.out (by simp)).at (k := k) hkl
      have HT := Lib.hid (show l.take (k + 1) = l.take k ++ [l[k]'hkl] by rw [List.take_add_one, List.getElem?_eq_getElem hkl]; rfl)
      generalize l[k]'hkl = b at *
      clear hkl
      have i0 : (0 : Int) ≤ (k : Int) := by omega
      have i2 : (k : Int) < (m : Int) := by omega
      have B1 := Lib.hid (BR.out.alloc (.cells #[.int .i64 b.id, .int .u32 (b.addr.toNat : Nat), .int .i64 b.weight] 27))
      by_cases hid : b.id = id
      · have HR := Lib.hid (show findB l id = some b from by
          have h1 := (findB_snoc (b := b) hF.out).trans (if_pos hid)
          rw [← HT.out] at h1
          have h2 := findB_pre (m := l.drop (k + 1)) h1
          rwa [List.take_append_drop] at h2)
        have e1 : (b.id == id) = true := by simpa using hid
        have HID := Lib.hid hid
        clear hid
        go_wp2_with ((with_reducible show wpList _ _ _ ({ dst := none, op := Op.store 27 (.tmp 4) (.tmp 18), type := _, pos := _, after := _, guard := _ } :: _) _ _); refine wpList_put (t := 27) rfl 27 (.tmp 4) (.tmp 18) rfl _ (by rfl) (by rfl) (by exact B1.out) (by rfl) (by kernel_rfl) (by simp [Value.oneCell']) ?_; intro w9 hb9 hk9; have Hb9 := Lib.hid hb9; have Hk9 := Lib.hid hk9; clear hb9 hk9)
        refine bodyPost_ret (results_cell1 (t := 27) Tryz.results6 (by rfl) Hb9.out _ Tryz.underlying27 rfl (by kernel_rfl)) rfl ?_
        exact ⟨⟨b, by rw [HR.out]; rfl, by rw [HR.out]; rfl⟩, (Hkw.out.alloc _).trans Hk9.out (fun i hi => .inr (by simp at hi; omega))⟩
      · have HN := Lib.hid (show findB (l.take (k + 1)) id = none from by rw [HT.out]; exact (findB_snoc hF.out).trans (if_neg hid))
        have e1 : (b.id == id) = false := by simpa using hid
        clear hid
        go_wp2
        go_roundg (m - (k + 1))
        case measure => omega
        case rel => exact ⟨k + 1, by omega, rfl, by go_num, Lib.hid HN.out, B1.out, Hkw.out.alloc _⟩
    · have HR := Lib.hid (show findB l id = none from by
        have h1 := hF.out
        rwa [List.take_of_length_le (by rw [A1.out]; omega)] at h1)
      go_wp2_with ((with_reducible show wpList _ _ _ ({ dst := none, op := Op.store 27 (.tmp 4) (.tmp 20), type := _, pos := _, after := _, guard := _ } :: _) _ _); refine wpList_put (t := 27) rfl 27 (.tmp 4) (.tmp 20) rfl _ (by rfl) (by rfl) (by exact BR.out) (by rfl) (by kernel_rfl) (by simp [Value.oneCell']) ?_; intro w9 hb9 hk9; have Hb9 := Lib.hid hb9; have Hk9 := Lib.hid hk9; clear hb9 hk9)
      refine bodyPost_ret (results_cell1 (t := 27) Tryz.results6 (by rfl) Hb9.out _ Tryz.underlying27 rfl (by kernel_rfl)) rfl ?_
      exact ⟨⟨default, by rw [HR.out]; rfl, by rw [HR.out]; rfl⟩, Hkw.out.trans Hk9.out (fun i hi => .inr (by simp at hi; omega))⟩
end
end Go.Proofs.YtgndijdhmkphaaaGreatDoor
