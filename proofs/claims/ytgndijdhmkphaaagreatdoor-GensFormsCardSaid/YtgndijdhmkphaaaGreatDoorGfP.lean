/-
  The document's Without. (GensForms)
-/
import Derived.Deep.RegionWith
import Derived.Deep.DeepCutAuto
import Derived.Deep.RegionHeld3
import Derived.Test.YtgndijdhmkphaaaGreatDoorRecI
import Derived.Test.YtgndijdhmkphaaaGreatDoorGfO
namespace Go.Proofs.YtgndijdhmkphaaaGreatDoor
set_option linter.unusedVariables false
section
open Go.RowKit Go.ChangeShapes Go.WideShapes Go.ChangeAt Go.Deep
set_option maxRecDepth 100000
abbrev keepB (outs : List Int) (l : List BackD) : List BackD := l.filter fun b => !decide (b.id ∈ outs)
theorem keepB_snoc (outs : List Int) (l : List BackD) (b : BackD) : keepB outs (l ++ [b]) = keepB outs l ++ if b.id ∈ outs then [] else [b] := by
  unfold keepB
  rw [List.filter_append]
  congr 1
  by_cases h : b.id ∈ outs <;> simp [h]
set_option maxHeartbeats 3200000 in
theorem rWithout_any (w : World) {G : List Nat} {A : Option Addr} {m c : Nat} (l : List BackD) (h : BkArr w G (.slice A m c) l) (hm : m ≤ 1000) (outs : List Int) {G2 : List Nat} {A2 : Option Addr} {m2 c2 : Nat} (h2 : IntArr w G2 (.slice A2 m2 c2) outs) :
    Calls Tryz.prog 16 #[.slice A m c, .slice A2 m2 c2] w fun e w' => ∃ v, e = .returned v ∧ BkV w w' v (keepB outs l) := by
  obtain ⟨a1, a2, a3, a4⟩ := h.len
  obtain ⟨b1, b2, b3, b4⟩ := h2.lens
  have H := Lib.hid h
  have H2 := Lib.hid h2
  have A1 := Lib.hid a1
  have B1 := Lib.hid b1
  unfold maxLen at a3 b3
  clear h h2 a1 b1 a4 b4
  go_enter Tryz.func16, Tryz.ntmps16
  go_wp2
  go_loopg [5, 13] m (fun g v i wr => ∃ k : Nat, k ≤ m ∧ g = m - k ∧ i = .int .i64 k ∧ BkO w w wr v (keepB outs (l.take k)))
  case atStart => exact ⟨0, by omega, by omega, rfl, BkO.nil (Kept.refl _ _)⟩
  case round =>
    obtain ⟨k, hk, rfl, rfl, hv⟩ := hrel
    have V := Lib.hid hv
    have KW := Lib.hid (LV.kept hv.bk)
    obtain ⟨vA, vm, vc, rfl⟩ := hv.form
    clear hv
    by_cases hlt : k < m
    · have hkl : k < l.length := by rw [A1.out]; exact hlt
      obtain ⟨g, o, rfl, hg, hgG, c0, c1, c2⟩ := (BkArr.kept H.out KW.out (by simp)).at (k := k) hkl
      have HT := Lib.hid (show l.take (k + 1) = l.take k ++ [l[k]'hkl] by rw [List.take_add_one, List.getElem?_eq_getElem hkl]; rfl)
      have HLK := Lib.hid (show (keepB outs (l.take k)).length ≤ 1000 from by
        have h1 := List.length_filter_le (fun b : BackD => !decide (b.id ∈ outs)) (l.take k)
        rw [List.length_take] at h1
        show ((l.take k).filter _).length ≤ 1000
        omega)
      generalize l[k]'hkl = b at *
      clear hkl
      have i0 : (0 : Int) ≤ (k : Int) := by omega
      have i2 : (k : Int) < (m : Int) := by omega
      have hka : Kept [] wr (wr.alloc (.cells #[.int .i64 b.id, .int .u32 (b.addr.toNat : Nat), .int .i64 b.weight] 27)) := (Kept.refl [] wr).alloc _
      obtain ⟨q, hq⟩ : ∃ q, wr.heap.size = q := ⟨_, rfl⟩
      have BN := Lib.hid (show Blk (wr.alloc (.cells #[.int .i64 b.id, .int .u32 (b.addr.toNat : Nat), .int .i64 b.weight] 27)) q 27 #[.int .i64 b.id, .int .u32 (b.addr.toNat : Nat), .int .i64 b.weight] from by rw [← hq]; exact Blk.new _ _ _)
      have V5 := Lib.hid (V.out.go hka)
      have K5 := Lib.hid (KW.out.trans hka (by simp))
      clear hka V
      go_upto_region 7 with fail
      generalize wr.alloc (.cells #[.int .i64 b.id, .int .u32 (b.addr.toNat : Nat), .int .i64 b.weight] 27) = w5 at *
      have hsz5 := K5.out.size
      clear c0 c1 c2
      go_loopg [8, 19] m2 (fun g v i wr => ∃ (j : Nat) (fo : Bool), j ≤ m2 ∧ g = m2 - j ∧ i = .int .i64 j ∧ v = .bool fo ∧ Hid (fo = decide (b.id ∈ outs.take j)) ∧ wr = w5)
      case atStart => exact ⟨0, false, by omega, by omega, rfl, rfl, Lib.hid (by simp), rfl⟩
      case round =>
        obtain ⟨j, fo, hj, rfl, rfl, rfl, hF, hw⟩ := hrel
        subst hw
        by_cases hjl : j < m2
        · have hjo : j < outs.length := by rw [B1.out]; exact hjl
          have hat := (IntArr.kept H2.out K5.out (by simp)).at hjo
          have HT2 := Lib.hid (show outs.take (j + 1) = outs.take j ++ [outs[j]'hjo] by rw [List.take_add_one, List.getElem?_eq_getElem hjo]; rfl)
          generalize outs[j]'hjo = x at *
          clear hjo
          obtain ⟨g2, o2, rfl, hg2, -, d0, -, -⟩ := hat
          have j0 : (0 : Int) ≤ (j : Int) := by omega
          have j1 : (j : Int) < (m2 : Int) := by omega
          have hcb := BN.out.cell 0
          have HN := Lib.hid (show (fo || decide (x = b.id)) = decide (b.id ∈ outs.take (j + 1)) from by
            rw [HT2.out, hF.out]
            by_cases e : b.id ∈ outs.take j
            · simp [e]
            · by_cases e2 : x = b.id
              · simp [e, e2]
              · simp [e, e2]; exact fun h => e2 h.symm)
          cases fo
          · by_cases hx : x = b.id
            · have e1 : (x == b.id) = true := by simpa using hx
              have HN2 := Lib.hid (show true = decide (b.id ∈ outs.take (j + 1)) from by have h1 := HN.out; simpa [hx] using h1)
              clear hx
              go_wp2
              go_roundg (m2 - (j + 1))
              case measure => omega
              case rel => exact ⟨j + 1, true, by omega, rfl, by go_num, rfl, Lib.hid HN2.out, rfl⟩
            · have e1 : (x == b.id) = false := by simpa using hx
              have HN2 := Lib.hid (show false = decide (b.id ∈ outs.take (j + 1)) from by have h1 := HN.out; simpa [hx] using h1)
              clear hx
              go_wp2
              go_roundg (m2 - (j + 1))
              case measure => omega
              case rel => exact ⟨j + 1, false, by omega, rfl, by go_num, rfl, Lib.hid HN2.out, rfl⟩
          · have HN2 := Lib.hid (show true = decide (b.id ∈ outs.take (j + 1)) from by have h1 := HN.out; simpa using h1)
            go_wp2
            go_roundg (m2 - (j + 1))
            case measure => omega
            case rel => exact ⟨j + 1, true, by omega, rfl, by go_num, rfl, Lib.hid HN2.out, rfl⟩
        · obtain rfl : j = m2 := by omega
          have HFo := Lib.hid (show fo = decide (b.id ∈ outs) from by
            have h1 := hF.out
            rwa [List.take_of_length_le (by rw [B1.out]; exact Nat.le_refl _)] at h1)
          have HS := Lib.hid (keepB_snoc outs (l.take k) b)
          have hcB := BN.out.cell
          cases fo
          · have HR := Lib.hid (show keepB outs (l.take (k + 1)) = keepB outs (l.take k) ++ [b] from by
              rw [HT.out, HS.out, if_neg (by have h1 := HFo.out; simpa using h1.symm)])
            have hsz6 := K5.out.size
            have hrow := V5.out.row
            go_wp2_with (first
              | (at_builtin
                 refine wpList_bk (W := w) (W0 := w) (w0 := wr) (bk := b) (l := keepB outs (l.take k)) rfl (.tmp 33) (.tmp 35) rfl rfl hsz6 (by rfl) V5.out (by rfl) (Nat.le_trans HLK.out (by omega)) ?_
                 intro A9 m9 c9 w9 h1 k9
                 have V9 := Lib.hid h1
                 clear h1 k9))
            go_roundg (m - (k + 1))
            case measure => omega
            case rel => exact ⟨k + 1, by omega, rfl, by go_num, by rw [HR.out]; exact V9.out⟩
          · have HR := Lib.hid (show keepB outs (l.take (k + 1)) = keepB outs (l.take k) from by
              rw [HT.out, HS.out, if_pos (by have h1 := HFo.out; simpa using h1.symm), List.append_nil])
            clear hcB
            go_wp2
            go_roundg (m - (k + 1))
            case measure => omega
            case rel => exact ⟨k + 1, by omega, rfl, by go_num, by rw [HR.out]; exact V5.out⟩
    · obtain rfl : k = m := by omega
      have HK := Lib.hid (show keepB outs (l.take k) = keepB outs l from by rw [List.take_of_length_le (by rw [A1.out]; exact Nat.le_refl _)])
      go_wp2
      go_ret
      exact ⟨_, rfl, by have := V.out.bk; rw [HK.out] at this; exact this⟩
end
end Go.Proofs.YtgndijdhmkphaaaGreatDoor
