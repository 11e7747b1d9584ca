/-
  The document's SortBackends. (GensForms)
-/
import Derived.Deep.RegionWith
import Derived.Deep.DeepCutAuto
import Derived.Deep.RegionHeld3
import Derived.BigQuiet
import Derived.Test.YtgndijdhmkphaaaGreatDoorGfQ
import Derived.Test.YtgndijdhmkphaaaGreatDoorArr
namespace Go.Proofs.YtgndijdhmkphaaaGreatDoor
set_option linter.unusedVariables false
section
open Go.RowKit Go.ChangeShapes Go.WideShapes Go.ChangeAt Go.Deep
set_option maxRecDepth 100000
def accB (l : List BackD) (k : Nat) : List BackD := (l.take k).foldl (fun acc x => repB x acc) []
theorem accB_succ {l : List BackD} {k : Nat} {b : BackD} (h : l[k]? = some b) : accB l (k + 1) = repB b (accB l k) := by
  unfold accB
  rw [List.take_add_one, h, List.foldl_append]; rfl
theorem accB_len (l : List BackD) : ∀ k, (accB l k).length ≤ k
  | 0 => by simp [accB]
  | k + 1 => by
    cases h : l[k]? with
    | none =>
      have h1 : accB l (k + 1) = accB l k := by
        unfold accB
        rw [List.take_add_one, h]; simp
      rw [h1]; have := accB_len l k; omega
    | some b =>
      rw [accB_succ h]
      have h1 := repB_len b (accB l k)
      have := accB_len l k
      omega
theorem rsortB_acc {l : List BackD} {k : Nat} (h : k = 16 ∨ (k ≤ 16 ∧ l.length = k)) : rsortB l = accB l k := by
  unfold rsortB accB
  rcases h with rfl | ⟨h1, h2⟩
  · rfl
  · rw [List.take_of_length_le (by omega), List.take_of_length_le (by omega)]
set_option maxHeartbeats 6400000 in
theorem rSort_any (w : World) {G : List Nat} {A : Option Addr} {m c : Nat} (l : List BackD) (h : BkArr w G (.slice A m c) l) (hm : m ≤ 1000000) :
    Calls Tryz.prog 14 #[.slice A m c] w fun e w' => ∃ v, e = .returned v ∧ BkV w w' v (rsortB l) := by
  obtain ⟨a1, a2, a3, a4⟩ := h.len
  have H := Lib.hid h
  have A1 := Lib.hid a1
  clear h a1 a4
  unfold maxLen at a3
  go_enter Tryz.func14, Tryz.ntmps14
  go_wp2
  go_loopg [3, 9] m (fun gg v i wr => ∃ k : Nat, k ≤ m ∧ k ≤ 16 ∧ gg = m - k ∧ i = .int .i64 k ∧ ∃ vA vm vc, v = .slice vA vm vc ∧ BkV w wr (.slice vA vm vc) (accB l k))
  case atStart => exact ⟨0, by omega, by omega, by omega, rfl, none, 0, 0, rfl, LV.nil (Kept.refl _ _)⟩
  case round =>
    obtain ⟨k, hk, hk16, rfl, rfl, vA, vm, vc, rfl, hv⟩ := hrel
    have V := Lib.hid hv
    have KW := Lib.hid (LV.kept hv)
    clear hv
    by_cases hlt : k < m
    · have hkl : k < l.length := by rw [A1.out]; exact hlt
      obtain ⟨g, o, rfl, hg, hgG, c0, c1, c2⟩ := (BkArr.kept H.out KW.out (by simp)).at (k := k) hkl
      have HAC := Lib.hid (accB_succ (List.getElem?_eq_getElem hkl))
      have HLA := Lib.hid (accB_len l k)
      have RS := Lib.hid (fun h => rsortB_acc (l := l) (k := k) h)
      generalize l[k]'hkl = b at *
      clear hkl
      have i0 : (0 : Int) ≤ (k : Int) := by omega
      have i2 : (k : Int) < (m : Int) := by omega
      have hka : Kept [] wr (wr.alloc (.cells #[.int .i64 b.id, .int .u32 (b.addr.toNat : Nat), .int .i64 b.weight] 27)) := (Kept.refl [] wr).alloc _
      obtain ⟨q, hq⟩ : ∃ q, wr.heap.size = q := ⟨_, rfl⟩
      have BN := Lib.hid (show Blk (wr.alloc (.cells #[.int .i64 b.id, .int .u32 (b.addr.toNat : Nat), .int .i64 b.weight] 27)) q 27 #[.int .i64 b.id, .int .u32 (b.addr.toNat : Nat), .int .i64 b.weight] from by rw [← hq]; exact Blk.new _ _ _)
      have V5 := Lib.hid (LV.go BkOk V.out hka)
      clear hka V
      by_cases h16 : k = 16
      · subst h16
        have HR := Lib.hid (RS.out (.inl rfl))
        have i3 : (16 : Int) ≤ (16 : Int) := by omega
        go_wp2
        go_ret
        exact ⟨_, rfl, by rw [HR.out]; exact V5.out⟩
      · have i3 : ¬ (16 : Int) ≤ (k : Int) := by omega
        go_upto_region 6 with fail
        generalize wr.alloc (.cells #[.int .i64 b.id, .int .u32 (b.addr.toNat : Nat), .int .i64 b.weight] 27) = w5 at *
        clear c0 c1 c2 RS KW
        obtain ⟨acc, hacc⟩ : ∃ acc, accB l k = acc := ⟨_, rfl⟩
        rw [hacc] at HAC HLA V5
        clear hacc
        go_wp2
        go_loopg [6] vm (fun gg v wr => ∃ j : Nat, j ≤ vm ∧ gg = vm - j ∧ v = .int .i64 j ∧ Hid (∀ i a, i < j → acc[i]? = some a → a.id < b.id) ∧ Kept [] w5 wr)
        case atStart => exact ⟨0, by omega, by omega, rfl, Lib.hid (fun i a hi => by omega), Kept.refl _ _⟩
        case round =>
          obtain ⟨j, hj, rfl, rfl, HS, hk5⟩ := hrel
          have V6 := Lib.hid (LV.go BkOk V5.out hk5)
          have B6 := Lib.hid (BN.out.kept hk5 (by simp))
          have K5 := Lib.hid hk5
          have j0 : (0 : Int) ≤ (j : Int) := by omega
          have hcb := B6.out.cell
          clear hk5 V5 BN
          rcases BkV.row V6.out with ⟨hv0, hl0⟩ | ⟨g2, cap, hv0, hr, hg2⟩
          · injection hv0 with e1 e2 e3
            subst e1 e2 e3 hl0
            obtain rfl : j = 0 := by omega
            have i4 : ¬ (0 : Int) < (0 : Int) := by omega
            have FIN := Lib.hid (show accB l (k + 1) = [].take 0 ++ [b] ++ [].drop 0 from by rw [HAC.out]; rfl)
            go_wp2_with fail
            go_quiet (fail)
            revert nq; intro nqa
            go_wp2_with fail
            go_quiet (fail)
            revert nq; intro nqb
            obtain ⟨wz, hwz⟩ : ∃ wz, (wr.drewN nqa).drewN nqb = wz := ⟨_, rfl⟩
            have k9' : Kept [] wr wz := hwz ▸ ((Kept.refl [] wr).drewN nqa).drewN nqb
            rw [hwz]
            have Vz := Lib.hid (LV.go BkOk V6.out k9')
            have Bz := Lib.hid (B6.out.kept k9' (by simp))
            have KWz := Lib.hid (LV.kept Vz.out)
            have K5z := Lib.hid k9'
            clear hwz k9' hcb
            have hxz := Bz.out.cell
            have HG := Lib.hid (show ∀ k ∈ ([] : List Nat), k < wz.heap.size from fun k hk => by simp at hk)
            have TX := Lib.hid (arr_none wz [] 3 _ 0 rfl : BkArr wz [] (.slice none 0 0) [])
            have RX := Lib.hid (arr_none wz [] 3 _ 0 rfl : BkArr wz [] (.slice none 0 0) [])
            have HL1 := Lib.hid (show ([] : List BackD).length + (([] : List BackD).take 0).length ≤ 100000 by have := HLA.out; (first | (simp; done) | (simp; omega)))
            have HL2 := Lib.hid (show ([] ++ ([] : List BackD).take 0 : List BackD).length + [b].length ≤ 100000 by have := HLA.out; (first | (simp; done) | (simp; omega)))
            have HL3 := Lib.hid (show ([] ++ ([] : List BackD).take 0 ++ [b] : List BackD).length + (([] : List BackD).drop 0).length ≤ 100000 by have := HLA.out; (first | (simp; done) | (simp; omega)))
            go_upto_region 11 with fail
            have TD := Lib.hid (BkArr.kept TX.out ((Kept.refl [] wz).drew) (by simp))
            have RD := Lib.hid (BkArr.kept RX.out ((Kept.refl [] wz).drew) (by simp))
            have hxz := Bz.out.cell
            have hxa := (Bz.out.alloc (.cells #[.int .i64 b.id, .int .u32 (b.addr.toNat : Nat), .int .i64 b.weight] 27)).cell
            refine wp_region_held_drew (S := (fun w' => ∀ i, w'.cell? ⟨q, i, none⟩ = (#[.int .i64 b.id, .int .u32 (b.addr.toNat : Nat), .int .i64 b.weight] : Array Value)[i]?)) (by kernel_rfl) (fun i => hxz i) (fun hHeld => ?_)
            refine wpAnyH_take (i := 0) (oi := ⟨some 50, _, _, _, _, _⟩) (v := ?vh1_1) rfl (by kernel_rfl) (by kernel_rfl) (by kernel_rfl) (fun _ _ _ h => h) (Or.inl ⟨by kernel_rfl, ?hyh1_1⟩) (by assumption) ?resth1_1
            case hyh1_1 => (intro w99 hSw; (try dsimp only at hSw); (try go_simp); (try with_reducible rfl); (try omega))
            simp only [Act.put, List.setIfInBounds_toArray, List.set_cons_zero, List.set_cons_succ]
            refine wpAnyH_take (i := 1) (oi := ⟨some 51, _, _, _, _, _⟩) (v := ?vh1_2) rfl (by kernel_rfl) (by kernel_rfl) (by kernel_rfl) (fun _ _ _ h => h) (Or.inl ⟨by kernel_rfl, ?hyh1_2⟩) (by assumption) ?resth1_2
            case hyh1_2 => (intro w99 hSw; (try dsimp only at hSw); (try go_simp); (try with_reducible rfl); (try omega))
            simp only [Act.put, List.setIfInBounds_toArray, List.set_cons_zero, List.set_cons_succ]
            refine wpAnyH_take (i := 2) (oi := ⟨some 52, _, _, _, _, _⟩) (v := ?vh1_3) rfl (by kernel_rfl) (by kernel_rfl) (by kernel_rfl) (fun _ _ _ h => h) (Or.inl ⟨by kernel_rfl, ?hyh1_3⟩) (by assumption) ?resth1_3
            case hyh1_3 => (intro w99 hSw; (try dsimp only at hSw); (try go_simp); (try with_reducible rfl); (try omega))
            simp only [Act.put, List.setIfInBounds_toArray, List.set_cons_zero, List.set_cons_succ]
            refine wpAnyH_take (i := 4) (oi := ⟨some 54, _, _, _, _, _⟩) (v := ?vh1_4) rfl (by kernel_rfl) (by kernel_rfl) (by kernel_rfl) (fun _ _ _ h => h) (Or.inl ⟨by kernel_rfl, ?hyh1_4⟩) (by assumption) ?resth1_4
            case hyh1_4 => (intro w99 hSw; (try dsimp only at hSw); (try go_simp); (try with_reducible rfl); (try omega))
            simp only [Act.put, List.setIfInBounds_toArray, List.set_cons_zero, List.set_cons_succ]
            refine wpAnyH_take (i := 7) (oi := ⟨some 57, _, _, _, _, _⟩) (v := ?vh1_5) rfl (by kernel_rfl) (by kernel_rfl) (by kernel_rfl) (fun _ _ _ h => h) (Or.inl ⟨by kernel_rfl, ?hyh1_5⟩) (by assumption) ?resth1_5
            case hyh1_5 => (intro w99 hSw; (try dsimp only at hSw); (try go_simp); (try with_reducible rfl); (try omega))
            simp only [Act.put, List.setIfInBounds_toArray, List.set_cons_zero, List.set_cons_succ]
            refine wpAnyH_take (i := 8) (oi := ⟨some 58, _, _, _, _, _⟩) (v := ?vh1_6) rfl (by kernel_rfl) (by kernel_rfl) (by kernel_rfl) (fun _ _ _ h => h) (Or.inl ⟨by kernel_rfl, ?hyh1_6⟩) (by assumption) ?resth1_6
            case hyh1_6 => (intro w99 hSw; (try dsimp only at hSw); (try go_simp); (try with_reducible rfl); (try omega))
            simp only [Act.put, List.setIfInBounds_toArray, List.set_cons_zero, List.set_cons_succ]
            refine wpAnyH_take (i := 9) (oi := ⟨some 59, _, _, _, _, _⟩) (v := ?vh1_7) rfl (by kernel_rfl) (by kernel_rfl) (by kernel_rfl) (fun _ _ _ h => h) (Or.inl ⟨by kernel_rfl, ?hyh1_7⟩) (by assumption) ?resth1_7
            case hyh1_7 => (intro w99 hSw; (try dsimp only at hSw); (try go_simp); (try with_reducible rfl); (try omega))
            simp only [Act.put, List.setIfInBounds_toArray, List.set_cons_zero, List.set_cons_succ]
            refine wpAnyH_ready (rs := [3, 5]) (by kernel_rfl) (by simp) ?_
            refine AllReadyH.cons (o := ⟨some 53, _, _, _, _, _⟩) rfl (fun KQ hKQ => ?w3h1_8) (AllReadyH.cons (o := ⟨some 55, _, _, _, _, _⟩) rfl (fun KQ hKQ => ?w5h1_8) AllReadyH.nil)
            case w3h1_8 =>
              refine step_lvs (W := wz) (w0 := wz.drew) (sl := .slice none 0 0) (l := []) (l2 := ([] : List BackD).take 0) BkOk elem_back (fun h => h) (by omega) rfl (.const (.slice none 0 0)) (.tmp 52) rfl (by first | (simp [Act.eval]; done) | (simp [Act.eval]; rfl) | rfl) (LV.nil ((Kept.refl [] wz).drew)) (by first | (simp [Act.eval]; done) | (simp [Act.eval]; rfl) | rfl) TD.out HL1.out ?_
              intro A9 m9 c9 w9 h9 k9 r9
              have K9 := Lib.hid (show Kept [] wz.drew w9 from k9)
              have H9 := Lib.hid h9
              clear h9 k9 r9
              refine hKQ.out _ _ (fun i => (Bz.out.kept (Kept.trans ((Kept.refl [] wz).drew) K9.out (by simp)) (by simp)).cell i) (fun hHeld9 => ?_)
              clear hKQ KQ hHeld
              have hHeld := hHeld9
              clear hHeld9
              try simp only [Act.put, List.setIfInBounds_toArray, List.set_cons_zero, List.set_cons_succ]
              refine wpAnyH_ready (rs := [5]) (by kernel_rfl) (by simp) ?_
              refine AllReadyH.cons (o := ⟨some 55, _, _, _, _, _⟩) rfl (fun KQ hKQ => ?w5h1_9) AllReadyH.nil
              case w5h1_9 =>
                go_simp
                refine hKQ.out _ _ (fun i => ((Bz.out.kept (Kept.trans ((Kept.refl [] wz).drew) K9.out (by simp)) (by simp)).alloc _).cell i) (fun hHeld9 => ?_)
                clear hKQ KQ hHeld
                have hHeld := hHeld9
                clear hHeld9
                try simp only [Act.put, List.setIfInBounds_toArray, List.set_cons_zero, List.set_cons_succ]
                refine wpAnyH_ready (rs := [6]) (by kernel_rfl) (by simp) ?_
                refine AllReadyH.cons (o := ⟨some 56, _, _, _, _, _⟩) rfl (fun KQ hKQ => ?w6h1_10) AllReadyH.nil
                case w6h1_10 =>
                  refine step_lvs (W := wz) (w0 := (w9.alloc (.cells #[.int .i64 b.id, .int .u32 (b.addr.toNat : Nat), .int .i64 b.weight] 27))) (sl := .slice A9 m9 c9) (l := [] ++ ([] : List BackD).take 0) (l2 := [b]) BkOk elem_back (fun h => h) (by omega) rfl (.tmp 53) (.tmp 55) rfl (by first | (simp [Act.eval]; done) | (simp [Act.eval]; rfl) | rfl) (LV.go BkOk H9.out ((Kept.refl [] w9).alloc _)) (by first | (simp [Act.eval]; done) | (simp [Act.eval]; rfl) | rfl) (arr_blk (Blk.new w9 _ _) rfl rfl) HL2.out ?_
                  intro A10 m10 c10 w10 h10 k10 r10
                  have RX10 := Lib.hid (BkArr.kept (BkArr.kept RD.out (K9.out.alloc (.cells #[.int .i64 b.id, .int .u32 (b.addr.toNat : Nat), .int .i64 b.weight] 27)) (by simp)) k10 (fun k hk hm => by have h1 := HG.out k hk; have h2 := (r10 k hm).1; omega))
                  have K10 := Lib.hid (Kept.trans (K9.out.alloc (.cells #[.int .i64 b.id, .int .u32 (b.addr.toNat : Nat), .int .i64 b.weight] 27)) k10 (fun k hm => .inr (r10 k hm).1) : Kept [] wz.drew w10)
                  have H10 := Lib.hid h10
                  clear h10 k10 r10
                  refine hKQ.out _ _ (fun i => (Bz.out.kept (Kept.trans ((Kept.refl [] wz).drew) K10.out (by simp)) (by simp)).cell i) (fun hHeld9 => ?_)
                  clear hKQ KQ hHeld
                  have hHeld := hHeld9
                  clear hHeld9
                  try simp only [Act.put, List.setIfInBounds_toArray, List.set_cons_zero, List.set_cons_succ]
                  refine wpAnyH_ready (rs := [10]) (by kernel_rfl) (by simp) ?_
                  refine AllReadyH.cons (o := ⟨some 60, _, _, _, _, _⟩) rfl (fun KQ hKQ => ?w10h1_11) AllReadyH.nil
                  case w10h1_11 =>
                    refine step_lvs (W := wz) (w0 := w10) (sl := .slice A10 m10 c10) (l := [] ++ ([] : List BackD).take 0 ++ [b]) (l2 := ([] : List BackD).drop 0) BkOk elem_back (fun h => h) (by omega) rfl (.tmp 56) (.tmp 59) rfl (by first | (simp [Act.eval]; done) | (simp [Act.eval]; rfl) | rfl) H10.out (by first | (simp [Act.eval]; done) | (simp [Act.eval]; rfl) | rfl) RX10.out HL3.out ?_
                    intro A11 m11 c11 w11 h11 k11 r11
                    have H11 := Lib.hid h11
                    have K11 := Lib.hid (Kept.trans K10.out k11 (fun k hm => .inr (r11 k hm).1) : Kept [] wz.drew w11)
                    clear h11 k11 r11
                    refine hKQ.out _ _ (fun i => (Bz.out.kept (Kept.trans ((Kept.refl [] wz).drew) K11.out (by simp)) (by simp)).cell i) (fun hHeld9 => ?_)
                    clear hKQ KQ hHeld
                    have hHeld := hHeld9
                    clear hHeld9
                    try simp only [Act.put, List.setIfInBounds_toArray, List.set_cons_zero, List.set_cons_succ]
                    refine wpAnyH_take (i := 11) (oi := ⟨some 3, _, _, _, _, _⟩) (v := ?vh1_12) rfl (by kernel_rfl) (by kernel_rfl) (by kernel_rfl) (fun _ _ _ h => h) (Or.inl ⟨by kernel_rfl, ?hyh1_12⟩) (by assumption) ?resth1_12
                    case hyh1_12 => (intro w99 hSw; (try dsimp only at hSw); (try go_simp); (try with_reducible rfl); (try omega))
                    simp only [Act.put, List.setIfInBounds_toArray, List.set_cons_zero, List.set_cons_succ]
                    refine wpAnyH_done (by kernel_rfl) ?_ _
                    clear hHeld
                    have V12 := Lib.hid (show BkV w w11 (.slice A11 m11 c11) (accB l (k + 1)) from by
                      have h1 := H11.out
                      rw [FIN.out]
                      exact LV.wide (by simpa using h1) KWz.out)
                    go_wp2
                    go_roundg (m - (k + 1))
                    case measure => omega
                    case rel => exact ⟨k + 1, by omega, by omega, rfl, by go_num, A11, m11, c11, rfl, V12.out⟩
            case w5h1_8 =>
              go_simp
              refine hKQ.out _ _ (fun i => ((Bz.out.drew).alloc _).cell i) (fun hHeld9 => ?_)
              clear hKQ KQ hHeld
              have hHeld := hHeld9
              clear hHeld9
              try simp only [Act.put, List.setIfInBounds_toArray, List.set_cons_zero, List.set_cons_succ]
              refine wpAnyH_ready (rs := [3]) (by kernel_rfl) (by simp) ?_
              refine AllReadyH.cons (o := ⟨some 53, _, _, _, _, _⟩) rfl (fun KQ hKQ => ?w3h1_13) AllReadyH.nil
              case w3h1_13 =>
                refine step_lvs (W := wz) (w0 := (wz.drew.alloc (.cells #[.int .i64 b.id, .int .u32 (b.addr.toNat : Nat), .int .i64 b.weight] 27))) (sl := .slice none 0 0) (l := []) (l2 := ([] : List BackD).take 0) BkOk elem_back (fun h => h) (by omega) rfl (.const (.slice none 0 0)) (.tmp 52) rfl (by first | (simp [Act.eval]; done) | (simp [Act.eval]; rfl) | rfl) (LV.nil (((Kept.refl [] wz).drew).alloc _)) (by first | (simp [Act.eval]; done) | (simp [Act.eval]; rfl) | rfl) (BkArr.kept TD.out ((Kept.refl [] _).alloc _) (by simp)) HL1.out ?_
                intro A9 m9 c9 w9 h9 k9 r9
                have K9 := Lib.hid (Kept.trans (S := []) ((Kept.refl [] wz.drew).alloc (.cells #[.int .i64 b.id, .int .u32 (b.addr.toNat : Nat), .int .i64 b.weight] 27)) (show Kept [] _ w9 from k9) (by simp))
                have BN9 := Lib.hid ((Blk.new wz.drew _ _).kept (S := []) (show Kept [] (wz.drew.alloc (.cells #[.int .i64 b.id, .int .u32 (b.addr.toNat : Nat), .int .i64 b.weight] 27)) w9 from k9) (by simp))
                have H9 := Lib.hid h9
                clear h9 k9 r9
                refine hKQ.out _ _ (fun i => (Bz.out.kept (Kept.trans ((Kept.refl [] wz).drew) K9.out (by simp)) (by simp)).cell i) (fun hHeld9 => ?_)
                clear hKQ KQ hHeld
                have hHeld := hHeld9
                clear hHeld9
                try simp only [Act.put, List.setIfInBounds_toArray, List.set_cons_zero, List.set_cons_succ]
                refine wpAnyH_ready (rs := [6]) (by kernel_rfl) (by simp) ?_
                refine AllReadyH.cons (o := ⟨some 56, _, _, _, _, _⟩) rfl (fun KQ hKQ => ?w6h1_14) AllReadyH.nil
                case w6h1_14 =>
                  refine step_lvs (W := wz) (w0 := w9) (sl := .slice A9 m9 c9) (l := [] ++ ([] : List BackD).take 0) (l2 := [b]) BkOk elem_back (fun h => h) (by omega) rfl (.tmp 53) (.tmp 55) rfl (by first | (simp [Act.eval]; done) | (simp [Act.eval]; rfl) | rfl) H9.out (by first | (simp [Act.eval]; done) | (simp [Act.eval]; rfl) | rfl) (arr_blk BN9.out rfl rfl) HL2.out ?_
                  intro A10 m10 c10 w10 h10 k10 r10
                  have RX10 := Lib.hid (BkArr.kept (BkArr.kept RD.out K9.out (by simp)) k10 (fun k hk hm => by have h1 := HG.out k hk; have h2 := (r10 k hm).1; omega))
                  have K10 := Lib.hid (Kept.trans K9.out k10 (fun k hm => .inr (r10 k hm).1) : Kept [] wz.drew w10)
                  have H10 := Lib.hid h10
                  clear h10 k10 r10
                  refine hKQ.out _ _ (fun i => (Bz.out.kept (Kept.trans ((Kept.refl [] wz).drew) K10.out (by simp)) (by simp)).cell i) (fun hHeld9 => ?_)
                  clear hKQ KQ hHeld
                  have hHeld := hHeld9
                  clear hHeld9
                  try simp only [Act.put, List.setIfInBounds_toArray, List.set_cons_zero, List.set_cons_succ]
                  refine wpAnyH_ready (rs := [10]) (by kernel_rfl) (by simp) ?_
                  refine AllReadyH.cons (o := ⟨some 60, _, _, _, _, _⟩) rfl (fun KQ hKQ => ?w10h1_15) AllReadyH.nil
                  case w10h1_15 =>
                    refine step_lvs (W := wz) (w0 := w10) (sl := .slice A10 m10 c10) (l := [] ++ ([] : List BackD).take 0 ++ [b]) (l2 := ([] : List BackD).drop 0) BkOk elem_back (fun h => h) (by omega) rfl (.tmp 56) (.tmp 59) rfl (by first | (simp [Act.eval]; done) | (simp [Act.eval]; rfl) | rfl) H10.out (by first | (simp [Act.eval]; done) | (simp [Act.eval]; rfl) | rfl) RX10.out HL3.out ?_
                    intro A11 m11 c11 w11 h11 k11 r11
                    have H11 := Lib.hid h11
                    have K11 := Lib.hid (Kept.trans K10.out k11 (fun k hm => .inr (r11 k hm).1) : Kept [] wz.drew w11)
                    clear h11 k11 r11
                    refine hKQ.out _ _ (fun i => (Bz.out.kept (Kept.trans ((Kept.refl [] wz).drew) K11.out (by simp)) (by simp)).cell i) (fun hHeld9 => ?_)
                    clear hKQ KQ hHeld
                    have hHeld := hHeld9
                    clear hHeld9
                    try simp only [Act.put, List.setIfInBounds_toArray, List.set_cons_zero, List.set_cons_succ]
                    refine wpAnyH_take (i := 11) (oi := ⟨some 3, _, _, _, _, _⟩) (v := ?vh1_16) rfl (by kernel_rfl) (by kernel_rfl) (by kernel_rfl) (fun _ _ _ h => h) (Or.inl ⟨by kernel_rfl, ?hyh1_16⟩) (by assumption) ?resth1_16
                    case hyh1_16 => (intro w99 hSw; (try dsimp only at hSw); (try go_simp); (try with_reducible rfl); (try omega))
                    simp only [Act.put, List.setIfInBounds_toArray, List.set_cons_zero, List.set_cons_succ]
                    refine wpAnyH_done (by kernel_rfl) ?_ _
                    clear hHeld
                    have V12 := Lib.hid (show BkV w w11 (.slice A11 m11 c11) (accB l (k + 1)) from by
                      have h1 := H11.out
                      rw [FIN.out]
                      exact LV.wide (by simpa using h1) KWz.out)
                    go_wp2
                    go_roundg (m - (k + 1))
                    case measure => omega
                    case rel => exact ⟨k + 1, by omega, by omega, rfl, by go_num, A11, m11, c11, rfl, V12.out⟩
          · injection hv0 with e1 e2 e3
            subst e1 e3
            have VL := Lib.hid e2.symm
            have R6 := Lib.hid hr
            have m1 := (BkArr.len (LV.arr BkOk V6.out).choose_spec.1).2.1
            have m2 := (BkArr.len (LV.arr BkOk V6.out).choose_spec.1).2.2.1
            unfold maxLen at m2
            clear e2 hr
            by_cases hjn : j < vm
            · obtain ⟨y, hy⟩ : ∃ y, acc[j]? = some y := ⟨_, List.getElem?_eq_getElem (by rw [VL.out]; exact hjn)⟩
              obtain ⟨d0, d1, d2⟩ := RowB.at R6.out hy
              have HY := Lib.hid hy
              have i4 : (j : Int) < (vm : Int) := by omega
              have dj : decide ((j : Int) < (vm : Int)) = true := decide_eq_true i4
              clear hy
              by_cases hlt2 : y.id < b.id
              · have dy : decide (y.id < b.id) = true := decide_eq_true hlt2
                have HS2 := Lib.hid (show ∀ i a, i < j + 1 → acc[i]? = some a → a.id < b.id from fun i a hi ha => by
                  rcases Nat.lt_succ_iff_lt_or_eq.1 hi with h1 | rfl
                  · exact HS.out i a h1 ha
                  · rw [HY.out] at ha; injection ha with ha; subst ha; exact hlt2)
                clear hlt2
                go_wp2_with fail
                go_quiet (fail)
                go_wp2
                go_roundg (vm - (j + 1))
                case measure => omega
                case rel => exact ⟨j + 1, by omega, rfl, by go_num, HS2, K5.out.drewN _⟩
              · have dy : decide (y.id < b.id) = false := decide_eq_false hlt2
                by_cases heq : y.id = b.id
                · have ey : (y.id == b.id) = true := by simpa using heq
                  have FIN := Lib.hid (show accB l (k + 1) = acc.set j b from by rw [HAC.out]; exact repB_set HS.out HY.out heq)
                  clear hlt2 heq
                  go_wp2_with fail
                  go_quiet (fail)
                  revert nq; intro nqa
                  go_wp2_with fail
                  go_quiet (fail)
                  revert nq; intro nqb
                  obtain ⟨wz, hwz⟩ : ∃ wz, (wr.drewN nqa).drewN nqb = wz := ⟨_, rfl⟩
                  have k9' : Kept [] wr wz := hwz ▸ ((Kept.refl [] wr).drewN nqa).drewN nqb
                  rw [hwz]
                  have Vz := Lib.hid (LV.go BkOk V6.out k9')
                  have Bz := Lib.hid (B6.out.kept k9' (by simp))
                  have KWz := Lib.hid (LV.kept Vz.out)
                  have K5z := Lib.hid k9'
                  clear hwz k9' hcb
                  have hxz := Bz.out.cell
                  have Rz := Lib.hid (R6.out.kept K5z.out (by simp))
                  have hjc : j < vc := by omega
                  have HG2 := Lib.hid hg2
                  clear hg2
                  go_wp2_with (first
                    | (with_reducible show wpList _ _ _ (({ dst := none, op := Op.store 27 (.tmp 49) (.tmp 48), type := _, pos := _, after := _, guard := _ } : Oper) :: _) _ _
                       refine RowAt.wpList_set rfl 27 (.tmp 49) (.tmp 48) rfl encB_len Rz.out (j := j) b (by rfl) rfl hjc (by rfl) (by kernel_rfl) (encB_one b) ?_
                       intro w10 hr2 hk2
                       have R10 := Lib.hid hr2
                       have K10 := Lib.hid hk2
                       clear hr2 hk2 hxz))
                  have V10 := Lib.hid (show BkV w w10 (.slice (some ⟨g2, 0, none⟩) vm vc) (accB l (k + 1)) from by
                    have h1 := RowB.bkv R10.out HG2.out (KWz.out.trans K10.out (fun i hi => .inr (by simp at hi; subst hi; exact HG2.out)))
                    rw [List.length_set, VL.out] at h1
                    rw [FIN.out]
                    exact h1)
                  go_roundg (m - (k + 1))
                  case measure => omega
                  case rel => exact ⟨k + 1, by omega, by omega, rfl, by go_num, _, _, _, rfl, V10.out⟩
                · have ey : (y.id == b.id) = false := by simpa using heq
                  have FIN := Lib.hid (show accB l (k + 1) = acc.take j ++ [b] ++ acc.drop j from by
                    rw [HAC.out]; exact repB_new (by rw [VL.out]; exact hj) HS.out (fun a ha => by rw [HY.out] at ha; injection ha with ha; subst ha; omega))
                  clear hlt2 heq
                  go_wp2_with fail
                  go_quiet (fail)
                  revert nq; intro nqa
                  go_wp2_with fail
                  go_quiet (fail)
                  revert nq; intro nqb
                  obtain ⟨wz, hwz⟩ : ∃ wz, (wr.drewN nqa).drewN nqb = wz := ⟨_, rfl⟩
                  have k9' : Kept [] wr wz := hwz ▸ ((Kept.refl [] wr).drewN nqa).drewN nqb
                  rw [hwz]
                  have Vz := Lib.hid (LV.go BkOk V6.out k9')
                  have Bz := Lib.hid (B6.out.kept k9' (by simp))
                  have KWz := Lib.hid (LV.kept Vz.out)
                  have K5z := Lib.hid k9'
                  clear hwz k9' hcb
                  have hxz := Bz.out.cell
                  have q1 : (j : Int) ≤ (vm : Int) := by omega
                  have q2 : (j : Int) ≤ (vc : Int) := by omega
                  have q3 : (vm : Int) ≤ (vc : Int) := by omega
                  obtain ⟨Gz, hAz, hGz⟩ := LV.arr BkOk Vz.out
                  have HG := Lib.hid hGz
                  have TX := Lib.hid (arr_take (k := j) hAz hj : BkArr wz _ (.slice (some ⟨g2, 0, none⟩) j vc) (acc.take j))
                  have hcj : ¬ vc = j := by omega
                  have RX := Lib.hid (by have h1 := arr_drop (k := j) hAz hj; rw [Nat.zero_add] at h1; exact h1 : BkArr wz Gz (.slice (some ⟨g2, j * 3, none⟩) (vm - j) (vc - j)) (acc.drop j))
                  clear hAz hGz
                  have HL1 := Lib.hid (show ([] : List BackD).length + (acc.take j).length ≤ 100000 by have := HLA.out; (first | (simp; done) | (simp; omega)))
                  have HL2 := Lib.hid (show ([] ++ acc.take j : List BackD).length + [b].length ≤ 100000 by have := HLA.out; (first | (simp; done) | (simp; omega)))
                  have HL3 := Lib.hid (show ([] ++ acc.take j ++ [b] : List BackD).length + (acc.drop j).length ≤ 100000 by have := HLA.out; (first | (simp; done) | (simp; omega)))
                  go_upto_region 11 with fail
                  have TD := Lib.hid (BkArr.kept TX.out ((Kept.refl [] wz).drew) (by simp))
                  have RD := Lib.hid (BkArr.kept RX.out ((Kept.refl [] wz).drew) (by simp))
                  have hxz := Bz.out.cell
                  have hxa := (Bz.out.alloc (.cells #[.int .i64 b.id, .int .u32 (b.addr.toNat : Nat), .int .i64 b.weight] 27)).cell
                  refine wp_region_held_drew (S := (fun w' => ∀ i, w'.cell? ⟨q, i, none⟩ = (#[.int .i64 b.id, .int .u32 (b.addr.toNat : Nat), .int .i64 b.weight] : Array Value)[i]?)) (by kernel_rfl) (fun i => hxz i) (fun hHeld => ?_)
                  refine wpAnyH_take (i := 0) (oi := ⟨some 50, _, _, _, _, _⟩) (v := ?vh2_1) rfl (by kernel_rfl) (by kernel_rfl) (by kernel_rfl) (fun _ _ _ h => h) (Or.inl ⟨by kernel_rfl, ?hyh2_1⟩) (by assumption) ?resth2_1
                  case hyh2_1 => (intro w99 hSw; (try dsimp only at hSw); (try go_simp); (try with_reducible rfl); (try omega))
                  simp only [Act.put, List.setIfInBounds_toArray, List.set_cons_zero, List.set_cons_succ]
                  refine wpAnyH_take (i := 1) (oi := ⟨some 51, _, _, _, _, _⟩) (v := ?vh2_2) rfl (by kernel_rfl) (by kernel_rfl) (by kernel_rfl) (fun _ _ _ h => h) (Or.inl ⟨by kernel_rfl, ?hyh2_2⟩) (by assumption) ?resth2_2
                  case hyh2_2 => (intro w99 hSw; (try dsimp only at hSw); (try go_simp); (try with_reducible rfl); (try omega))
                  simp only [Act.put, List.setIfInBounds_toArray, List.set_cons_zero, List.set_cons_succ]
                  refine wpAnyH_take (i := 2) (oi := ⟨some 52, _, _, _, _, _⟩) (v := ?vh2_3) rfl (by kernel_rfl) (by kernel_rfl) (by kernel_rfl) (fun _ _ _ h => h) (Or.inl ⟨by kernel_rfl, ?hyh2_3⟩) (by assumption) ?resth2_3
                  case hyh2_3 => (intro w99 hSw; (try dsimp only at hSw); (try go_simp); (try with_reducible rfl); (try omega))
                  simp only [Act.put, List.setIfInBounds_toArray, List.set_cons_zero, List.set_cons_succ]
                  refine wpAnyH_take (i := 4) (oi := ⟨some 54, _, _, _, _, _⟩) (v := ?vh2_4) rfl (by kernel_rfl) (by kernel_rfl) (by kernel_rfl) (fun _ _ _ h => h) (Or.inl ⟨by kernel_rfl, ?hyh2_4⟩) (by assumption) ?resth2_4
                  case hyh2_4 => (intro w99 hSw; (try dsimp only at hSw); (try go_simp); (try with_reducible rfl); (try omega))
                  simp only [Act.put, List.setIfInBounds_toArray, List.set_cons_zero, List.set_cons_succ]
                  refine wpAnyH_take (i := 7) (oi := ⟨some 57, _, _, _, _, _⟩) (v := ?vh2_5) rfl (by kernel_rfl) (by kernel_rfl) (by kernel_rfl) (fun _ _ _ h => h) (Or.inl ⟨by kernel_rfl, ?hyh2_5⟩) (by assumption) ?resth2_5
                  case hyh2_5 => (intro w99 hSw; (try dsimp only at hSw); (try go_simp); (try with_reducible rfl); (try omega))
                  simp only [Act.put, List.setIfInBounds_toArray, List.set_cons_zero, List.set_cons_succ]
                  refine wpAnyH_take (i := 8) (oi := ⟨some 58, _, _, _, _, _⟩) (v := ?vh2_6) rfl (by kernel_rfl) (by kernel_rfl) (by kernel_rfl) (fun _ _ _ h => h) (Or.inl ⟨by kernel_rfl, ?hyh2_6⟩) (by assumption) ?resth2_6
                  case hyh2_6 => (intro w99 hSw; (try dsimp only at hSw); (try go_simp); (try with_reducible rfl); (try omega))
                  simp only [Act.put, List.setIfInBounds_toArray, List.set_cons_zero, List.set_cons_succ]
                  refine wpAnyH_take (i := 9) (oi := ⟨some 59, _, _, _, _, _⟩) (v := ?vh2_7) rfl (by kernel_rfl) (by kernel_rfl) (by kernel_rfl) (fun _ _ _ h => h) (Or.inl ⟨by kernel_rfl, ?hyh2_7⟩) (by assumption) ?resth2_7
                  case hyh2_7 => (intro w99 hSw; (try dsimp only at hSw); (try go_simp); (try with_reducible rfl); (try omega))
                  simp only [Act.put, List.setIfInBounds_toArray, List.set_cons_zero, List.set_cons_succ]
                  refine wpAnyH_ready (rs := [3, 5]) (by kernel_rfl) (by simp) ?_
                  refine AllReadyH.cons (o := ⟨some 53, _, _, _, _, _⟩) rfl (fun KQ hKQ => ?w3h2_8) (AllReadyH.cons (o := ⟨some 55, _, _, _, _, _⟩) rfl (fun KQ hKQ => ?w5h2_8) AllReadyH.nil)
                  case w3h2_8 =>
                    refine step_lvs (W := wz) (w0 := wz.drew) (sl := .slice none 0 0) (l := []) (l2 := acc.take j) BkOk elem_back (fun h => h) (by omega) rfl (.const (.slice none 0 0)) (.tmp 52) rfl (by first | (simp [Act.eval]; done) | (simp [Act.eval]; rfl) | rfl) (LV.nil ((Kept.refl [] wz).drew)) (by first | (simp [Act.eval]; done) | (simp [Act.eval]; rfl) | rfl) TD.out HL1.out ?_
                    intro A9 m9 c9 w9 h9 k9 r9
                    have K9 := Lib.hid (show Kept [] wz.drew w9 from k9)
                    have H9 := Lib.hid h9
                    clear h9 k9 r9
                    refine hKQ.out _ _ (fun i => (Bz.out.kept (Kept.trans ((Kept.refl [] wz).drew) K9.out (by simp)) (by simp)).cell i) (fun hHeld9 => ?_)
                    clear hKQ KQ hHeld
                    have hHeld := hHeld9
                    clear hHeld9
                    try simp only [Act.put, List.setIfInBounds_toArray, List.set_cons_zero, List.set_cons_succ]
                    refine wpAnyH_ready (rs := [5]) (by kernel_rfl) (by simp) ?_
                    refine AllReadyH.cons (o := ⟨some 55, _, _, _, _, _⟩) rfl (fun KQ hKQ => ?w5h2_9) AllReadyH.nil
                    case w5h2_9 =>
                      go_simp
                      refine hKQ.out _ _ (fun i => ((Bz.out.kept (Kept.trans ((Kept.refl [] wz).drew) K9.out (by simp)) (by simp)).alloc _).cell i) (fun hHeld9 => ?_)
                      clear hKQ KQ hHeld
                      have hHeld := hHeld9
                      clear hHeld9
                      try simp only [Act.put, List.setIfInBounds_toArray, List.set_cons_zero, List.set_cons_succ]
                      refine wpAnyH_ready (rs := [6]) (by kernel_rfl) (by simp) ?_
                      refine AllReadyH.cons (o := ⟨some 56, _, _, _, _, _⟩) rfl (fun KQ hKQ => ?w6h2_10) AllReadyH.nil
                      case w6h2_10 =>
                        refine step_lvs (W := wz) (w0 := (w9.alloc (.cells #[.int .i64 b.id, .int .u32 (b.addr.toNat : Nat), .int .i64 b.weight] 27))) (sl := .slice A9 m9 c9) (l := [] ++ acc.take j) (l2 := [b]) BkOk elem_back (fun h => h) (by omega) rfl (.tmp 53) (.tmp 55) rfl (by first | (simp [Act.eval]; done) | (simp [Act.eval]; rfl) | rfl) (LV.go BkOk H9.out ((Kept.refl [] w9).alloc _)) (by first | (simp [Act.eval]; done) | (simp [Act.eval]; rfl) | rfl) (arr_blk (Blk.new w9 _ _) rfl rfl) HL2.out ?_
                        intro A10 m10 c10 w10 h10 k10 r10
                        have RX10 := Lib.hid (BkArr.kept (BkArr.kept RD.out (K9.out.alloc (.cells #[.int .i64 b.id, .int .u32 (b.addr.toNat : Nat), .int .i64 b.weight] 27)) (by simp)) k10 (fun k hk hm => by have h1 := HG.out k hk; have h2 := (r10 k hm).1; omega))
                        have K10 := Lib.hid (Kept.trans (K9.out.alloc (.cells #[.int .i64 b.id, .int .u32 (b.addr.toNat : Nat), .int .i64 b.weight] 27)) k10 (fun k hm => .inr (r10 k hm).1) : Kept [] wz.drew w10)
                        have H10 := Lib.hid h10
                        clear h10 k10 r10
                        refine hKQ.out _ _ (fun i => (Bz.out.kept (Kept.trans ((Kept.refl [] wz).drew) K10.out (by simp)) (by simp)).cell i) (fun hHeld9 => ?_)
                        clear hKQ KQ hHeld
                        have hHeld := hHeld9
                        clear hHeld9
                        try simp only [Act.put, List.setIfInBounds_toArray, List.set_cons_zero, List.set_cons_succ]
                        refine wpAnyH_ready (rs := [10]) (by kernel_rfl) (by simp) ?_
                        refine AllReadyH.cons (o := ⟨some 60, _, _, _, _, _⟩) rfl (fun KQ hKQ => ?w10h2_11) AllReadyH.nil
                        case w10h2_11 =>
                          refine step_lvs (W := wz) (w0 := w10) (sl := .slice A10 m10 c10) (l := [] ++ acc.take j ++ [b]) (l2 := acc.drop j) BkOk elem_back (fun h => h) (by omega) rfl (.tmp 56) (.tmp 59) rfl (by first | (simp [Act.eval]; done) | (simp [Act.eval]; rfl) | rfl) H10.out (by first | (simp [Act.eval]; done) | (simp [Act.eval]; rfl) | rfl) RX10.out HL3.out ?_
                          intro A11 m11 c11 w11 h11 k11 r11
                          have H11 := Lib.hid h11
                          have K11 := Lib.hid (Kept.trans K10.out k11 (fun k hm => .inr (r11 k hm).1) : Kept [] wz.drew w11)
                          clear h11 k11 r11
                          refine hKQ.out _ _ (fun i => (Bz.out.kept (Kept.trans ((Kept.refl [] wz).drew) K11.out (by simp)) (by simp)).cell i) (fun hHeld9 => ?_)
                          clear hKQ KQ hHeld
                          have hHeld := hHeld9
                          clear hHeld9
                          try simp only [Act.put, List.setIfInBounds_toArray, List.set_cons_zero, List.set_cons_succ]
                          refine wpAnyH_take (i := 11) (oi := ⟨some 3, _, _, _, _, _⟩) (v := ?vh2_12) rfl (by kernel_rfl) (by kernel_rfl) (by kernel_rfl) (fun _ _ _ h => h) (Or.inl ⟨by kernel_rfl, ?hyh2_12⟩) (by assumption) ?resth2_12
                          case hyh2_12 => (intro w99 hSw; (try dsimp only at hSw); (try go_simp); (try with_reducible rfl); (try omega))
                          simp only [Act.put, List.setIfInBounds_toArray, List.set_cons_zero, List.set_cons_succ]
                          refine wpAnyH_done (by kernel_rfl) ?_ _
                          clear hHeld
                          have V12 := Lib.hid (show BkV w w11 (.slice A11 m11 c11) (accB l (k + 1)) from by
                            have h1 := H11.out
                            rw [FIN.out]
                            exact LV.wide (by simpa using h1) KWz.out)
                          go_wp2
                          go_roundg (m - (k + 1))
                          case measure => omega
                          case rel => exact ⟨k + 1, by omega, by omega, rfl, by go_num, A11, m11, c11, rfl, V12.out⟩
                  case w5h2_8 =>
                    go_simp
                    refine hKQ.out _ _ (fun i => ((Bz.out.drew).alloc _).cell i) (fun hHeld9 => ?_)
                    clear hKQ KQ hHeld
                    have hHeld := hHeld9
                    clear hHeld9
                    try simp only [Act.put, List.setIfInBounds_toArray, List.set_cons_zero, List.set_cons_succ]
                    refine wpAnyH_ready (rs := [3]) (by kernel_rfl) (by simp) ?_
                    refine AllReadyH.cons (o := ⟨some 53, _, _, _, _, _⟩) rfl (fun KQ hKQ => ?w3h2_13) AllReadyH.nil
                    case w3h2_13 =>
                      refine step_lvs (W := wz) (w0 := (wz.drew.alloc (.cells #[.int .i64 b.id, .int .u32 (b.addr.toNat : Nat), .int .i64 b.weight] 27))) (sl := .slice none 0 0) (l := []) (l2 := acc.take j) BkOk elem_back (fun h => h) (by omega) rfl (.const (.slice none 0 0)) (.tmp 52) rfl (by first | (simp [Act.eval]; done) | (simp [Act.eval]; rfl) | rfl) (LV.nil (((Kept.refl [] wz).drew).alloc _)) (by first | (simp [Act.eval]; done) | (simp [Act.eval]; rfl) | rfl) (BkArr.kept TD.out ((Kept.refl [] _).alloc _) (by simp)) HL1.out ?_
                      intro A9 m9 c9 w9 h9 k9 r9
                      have K9 := Lib.hid (Kept.trans (S := []) ((Kept.refl [] wz.drew).alloc (.cells #[.int .i64 b.id, .int .u32 (b.addr.toNat : Nat), .int .i64 b.weight] 27)) (show Kept [] _ w9 from k9) (by simp))
                      have BN9 := Lib.hid ((Blk.new wz.drew _ _).kept (S := []) (show Kept [] (wz.drew.alloc (.cells #[.int .i64 b.id, .int .u32 (b.addr.toNat : Nat), .int .i64 b.weight] 27)) w9 from k9) (by simp))
                      have H9 := Lib.hid h9
                      clear h9 k9 r9
                      refine hKQ.out _ _ (fun i => (Bz.out.kept (Kept.trans ((Kept.refl [] wz).drew) K9.out (by simp)) (by simp)).cell i) (fun hHeld9 => ?_)
                      clear hKQ KQ hHeld
                      have hHeld := hHeld9
                      clear hHeld9
                      try simp only [Act.put, List.setIfInBounds_toArray, List.set_cons_zero, List.set_cons_succ]
                      refine wpAnyH_ready (rs := [6]) (by kernel_rfl) (by simp) ?_
                      refine AllReadyH.cons (o := ⟨some 56, _, _, _, _, _⟩) rfl (fun KQ hKQ => ?w6h2_14) AllReadyH.nil
                      case w6h2_14 =>
                        refine step_lvs (W := wz) (w0 := w9) (sl := .slice A9 m9 c9) (l := [] ++ acc.take j) (l2 := [b]) BkOk elem_back (fun h => h) (by omega) rfl (.tmp 53) (.tmp 55) rfl (by first | (simp [Act.eval]; done) | (simp [Act.eval]; rfl) | rfl) H9.out (by first | (simp [Act.eval]; done) | (simp [Act.eval]; rfl) | rfl) (arr_blk BN9.out rfl rfl) HL2.out ?_
                        intro A10 m10 c10 w10 h10 k10 r10
                        have RX10 := Lib.hid (BkArr.kept (BkArr.kept RD.out K9.out (by simp)) k10 (fun k hk hm => by have h1 := HG.out k hk; have h2 := (r10 k hm).1; omega))
                        have K10 := Lib.hid (Kept.trans K9.out k10 (fun k hm => .inr (r10 k hm).1) : Kept [] wz.drew w10)
                        have H10 := Lib.hid h10
                        clear h10 k10 r10
                        refine hKQ.out _ _ (fun i => (Bz.out.kept (Kept.trans ((Kept.refl [] wz).drew) K10.out (by simp)) (by simp)).cell i) (fun hHeld9 => ?_)
                        clear hKQ KQ hHeld
                        have hHeld := hHeld9
                        clear hHeld9
                        try simp only [Act.put, List.setIfInBounds_toArray, List.set_cons_zero, List.set_cons_succ]
                        refine wpAnyH_ready (rs := [10]) (by kernel_rfl) (by simp) ?_
                        refine AllReadyH.cons (o := ⟨some 60, _, _, _, _, _⟩) rfl (fun KQ hKQ => ?w10h2_15) AllReadyH.nil
                        case w10h2_15 =>
                          refine step_lvs (W := wz) (w0 := w10) (sl := .slice A10 m10 c10) (l := [] ++ acc.take j ++ [b]) (l2 := acc.drop j) BkOk elem_back (fun h => h) (by omega) rfl (.tmp 56) (.tmp 59) rfl (by first | (simp [Act.eval]; done) | (simp [Act.eval]; rfl) | rfl) H10.out (by first | (simp [Act.eval]; done) | (simp [Act.eval]; rfl) | rfl) RX10.out HL3.out ?_
                          intro A11 m11 c11 w11 h11 k11 r11
                          have H11 := Lib.hid h11
                          have K11 := Lib.hid (Kept.trans K10.out k11 (fun k hm => .inr (r11 k hm).1) : Kept [] wz.drew w11)
                          clear h11 k11 r11
                          refine hKQ.out _ _ (fun i => (Bz.out.kept (Kept.trans ((Kept.refl [] wz).drew) K11.out (by simp)) (by simp)).cell i) (fun hHeld9 => ?_)
                          clear hKQ KQ hHeld
                          have hHeld := hHeld9
                          clear hHeld9
                          try simp only [Act.put, List.setIfInBounds_toArray, List.set_cons_zero, List.set_cons_succ]
                          refine wpAnyH_take (i := 11) (oi := ⟨some 3, _, _, _, _, _⟩) (v := ?vh2_16) rfl (by kernel_rfl) (by kernel_rfl) (by kernel_rfl) (fun _ _ _ h => h) (Or.inl ⟨by kernel_rfl, ?hyh2_16⟩) (by assumption) ?resth2_16
                          case hyh2_16 => (intro w99 hSw; (try dsimp only at hSw); (try go_simp); (try with_reducible rfl); (try omega))
                          simp only [Act.put, List.setIfInBounds_toArray, List.set_cons_zero, List.set_cons_succ]
                          refine wpAnyH_done (by kernel_rfl) ?_ _
                          clear hHeld
                          have V12 := Lib.hid (show BkV w w11 (.slice A11 m11 c11) (accB l (k + 1)) from by
                            have h1 := H11.out
                            rw [FIN.out]
                            exact LV.wide (by simpa using h1) KWz.out)
                          go_wp2
                          go_roundg (m - (k + 1))
                          case measure => omega
                          case rel => exact ⟨k + 1, by omega, by omega, rfl, by go_num, A11, m11, c11, rfl, V12.out⟩
            · obtain rfl : j = vm := by omega
              have i4 : ¬ (j : Int) < (j : Int) := by omega
              have FIN := Lib.hid (show accB l (k + 1) = acc.take j ++ [b] ++ acc.drop j from by
                rw [HAC.out]; exact repB_new (by rw [VL.out]; exact hj) HS.out (fun a ha => by rw [List.getElem?_eq_none (by rw [VL.out]; exact Nat.le_refl _)] at ha; cases ha))
              go_wp2_with fail
              go_quiet (fail)
              revert nq; intro nqa
              go_wp2_with fail
              go_quiet (fail)
              revert nq; intro nqb
              obtain ⟨wz, hwz⟩ : ∃ wz, (wr.drewN nqa).drewN nqb = wz := ⟨_, rfl⟩
              have k9' : Kept [] wr wz := hwz ▸ ((Kept.refl [] wr).drewN nqa).drewN nqb
              rw [hwz]
              have Vz := Lib.hid (LV.go BkOk V6.out k9')
              have Bz := Lib.hid (B6.out.kept k9' (by simp))
              have KWz := Lib.hid (LV.kept Vz.out)
              have K5z := Lib.hid k9'
              clear hwz k9' hcb
              have hxz := Bz.out.cell
              have q1 : (j : Int) ≤ (j : Int) := by omega
              have q2 : (j : Int) ≤ (vc : Int) := by omega
              have q3 : (j : Int) ≤ (vc : Int) := by omega
              obtain ⟨Gz, hAz, hGz⟩ := LV.arr BkOk Vz.out
              have HG := Lib.hid hGz
              have TX := Lib.hid (arr_take (k := j) hAz hj : BkArr wz _ (.slice (some ⟨g2, 0, none⟩) j vc) (acc.take j))
              by_cases hcj : vc = j
              · subst hcj
                have RX := Lib.hid (by rw [List.drop_of_length_le (by rw [VL.out]; exact Nat.le_refl _)]; exact arr_zero wz Gz 3 _ _ 0 (by unfold maxLen; omega) : BkArr wz Gz (.slice (some ⟨g2, 0, none⟩) 0 0) (acc.drop vc))
                clear hAz hGz
                have HL1 := Lib.hid (show ([] : List BackD).length + (acc.take vc).length ≤ 100000 by have := HLA.out; (first | (simp; done) | (simp; omega)))
                have HL2 := Lib.hid (show ([] ++ acc.take vc : List BackD).length + [b].length ≤ 100000 by have := HLA.out; (first | (simp; done) | (simp; omega)))
                have HL3 := Lib.hid (show ([] ++ acc.take vc ++ [b] : List BackD).length + (acc.drop vc).length ≤ 100000 by have := HLA.out; (first | (simp; done) | (simp; omega)))
                go_upto_region 11 with fail
                have TD := Lib.hid (BkArr.kept TX.out ((Kept.refl [] wz).drew) (by simp))
                have RD := Lib.hid (BkArr.kept RX.out ((Kept.refl [] wz).drew) (by simp))
                have hxz := Bz.out.cell
                have hxa := (Bz.out.alloc (.cells #[.int .i64 b.id, .int .u32 (b.addr.toNat : Nat), .int .i64 b.weight] 27)).cell
                refine wp_region_held_drew (S := (fun w' => ∀ i, w'.cell? ⟨q, i, none⟩ = (#[.int .i64 b.id, .int .u32 (b.addr.toNat : Nat), .int .i64 b.weight] : Array Value)[i]?)) (by kernel_rfl) (fun i => hxz i) (fun hHeld => ?_)
                refine wpAnyH_take (i := 0) (oi := ⟨some 50, _, _, _, _, _⟩) (v := ?vh3_1) rfl (by kernel_rfl) (by kernel_rfl) (by kernel_rfl) (fun _ _ _ h => h) (Or.inl ⟨by kernel_rfl, ?hyh3_1⟩) (by assumption) ?resth3_1
                case hyh3_1 => (intro w99 hSw; (try dsimp only at hSw); (try go_simp); (try with_reducible rfl); (try omega))
                simp only [Act.put, List.setIfInBounds_toArray, List.set_cons_zero, List.set_cons_succ]
                refine wpAnyH_take (i := 1) (oi := ⟨some 51, _, _, _, _, _⟩) (v := ?vh3_2) rfl (by kernel_rfl) (by kernel_rfl) (by kernel_rfl) (fun _ _ _ h => h) (Or.inl ⟨by kernel_rfl, ?hyh3_2⟩) (by assumption) ?resth3_2
                case hyh3_2 => (intro w99 hSw; (try dsimp only at hSw); (try go_simp); (try with_reducible rfl); (try omega))
                simp only [Act.put, List.setIfInBounds_toArray, List.set_cons_zero, List.set_cons_succ]
                refine wpAnyH_take (i := 2) (oi := ⟨some 52, _, _, _, _, _⟩) (v := ?vh3_3) rfl (by kernel_rfl) (by kernel_rfl) (by kernel_rfl) (fun _ _ _ h => h) (Or.inl ⟨by kernel_rfl, ?hyh3_3⟩) (by assumption) ?resth3_3
                case hyh3_3 => (intro w99 hSw; (try dsimp only at hSw); (try go_simp); (try with_reducible rfl); (try omega))
                simp only [Act.put, List.setIfInBounds_toArray, List.set_cons_zero, List.set_cons_succ]
                refine wpAnyH_take (i := 4) (oi := ⟨some 54, _, _, _, _, _⟩) (v := ?vh3_4) rfl (by kernel_rfl) (by kernel_rfl) (by kernel_rfl) (fun _ _ _ h => h) (Or.inl ⟨by kernel_rfl, ?hyh3_4⟩) (by assumption) ?resth3_4
                case hyh3_4 => (intro w99 hSw; (try dsimp only at hSw); (try go_simp); (try with_reducible rfl); (try omega))
                simp only [Act.put, List.setIfInBounds_toArray, List.set_cons_zero, List.set_cons_succ]
                refine wpAnyH_take (i := 7) (oi := ⟨some 57, _, _, _, _, _⟩) (v := ?vh3_5) rfl (by kernel_rfl) (by kernel_rfl) (by kernel_rfl) (fun _ _ _ h => h) (Or.inl ⟨by kernel_rfl, ?hyh3_5⟩) (by assumption) ?resth3_5
                case hyh3_5 => (intro w99 hSw; (try dsimp only at hSw); (try go_simp); (try with_reducible rfl); (try omega))
                simp only [Act.put, List.setIfInBounds_toArray, List.set_cons_zero, List.set_cons_succ]
                refine wpAnyH_take (i := 8) (oi := ⟨some 58, _, _, _, _, _⟩) (v := ?vh3_6) rfl (by kernel_rfl) (by kernel_rfl) (by kernel_rfl) (fun _ _ _ h => h) (Or.inl ⟨by kernel_rfl, ?hyh3_6⟩) (by assumption) ?resth3_6
                case hyh3_6 => (intro w99 hSw; (try dsimp only at hSw); (try go_simp); (try with_reducible rfl); (try omega))
                simp only [Act.put, List.setIfInBounds_toArray, List.set_cons_zero, List.set_cons_succ]
                refine wpAnyH_take (i := 9) (oi := ⟨some 59, _, _, _, _, _⟩) (v := ?vh3_7) rfl (by kernel_rfl) (by kernel_rfl) (by kernel_rfl) (fun _ _ _ h => h) (Or.inl ⟨by kernel_rfl, ?hyh3_7⟩) (by assumption) ?resth3_7
                case hyh3_7 => (intro w99 hSw; (try dsimp only at hSw); (try go_simp); (try with_reducible rfl); (try omega))
                simp only [Act.put, List.setIfInBounds_toArray, List.set_cons_zero, List.set_cons_succ]
                refine wpAnyH_ready (rs := [3, 5]) (by kernel_rfl) (by simp) ?_
                refine AllReadyH.cons (o := ⟨some 53, _, _, _, _, _⟩) rfl (fun KQ hKQ => ?w3h3_8) (AllReadyH.cons (o := ⟨some 55, _, _, _, _, _⟩) rfl (fun KQ hKQ => ?w5h3_8) AllReadyH.nil)
                case w3h3_8 =>
                  refine step_lvs (W := wz) (w0 := wz.drew) (sl := .slice none 0 0) (l := []) (l2 := acc.take vc) BkOk elem_back (fun h => h) (by omega) rfl (.const (.slice none 0 0)) (.tmp 52) rfl (by first | (simp [Act.eval]; done) | (simp [Act.eval]; rfl) | rfl) (LV.nil ((Kept.refl [] wz).drew)) (by first | (simp [Act.eval]; done) | (simp [Act.eval]; rfl) | rfl) TD.out HL1.out ?_
                  intro A9 m9 c9 w9 h9 k9 r9
                  have K9 := Lib.hid (show Kept [] wz.drew w9 from k9)
                  have H9 := Lib.hid h9
                  clear h9 k9 r9
                  refine hKQ.out _ _ (fun i => (Bz.out.kept (Kept.trans ((Kept.refl [] wz).drew) K9.out (by simp)) (by simp)).cell i) (fun hHeld9 => ?_)
                  clear hKQ KQ hHeld
                  have hHeld := hHeld9
                  clear hHeld9
                  try simp only [Act.put, List.setIfInBounds_toArray, List.set_cons_zero, List.set_cons_succ]
                  refine wpAnyH_ready (rs := [5]) (by kernel_rfl) (by simp) ?_
                  refine AllReadyH.cons (o := ⟨some 55, _, _, _, _, _⟩) rfl (fun KQ hKQ => ?w5h3_9) AllReadyH.nil
                  case w5h3_9 =>
                    go_simp
                    refine hKQ.out _ _ (fun i => ((Bz.out.kept (Kept.trans ((Kept.refl [] wz).drew) K9.out (by simp)) (by simp)).alloc _).cell i) (fun hHeld9 => ?_)
                    clear hKQ KQ hHeld
                    have hHeld := hHeld9
                    clear hHeld9
                    try simp only [Act.put, List.setIfInBounds_toArray, List.set_cons_zero, List.set_cons_succ]
                    refine wpAnyH_ready (rs := [6]) (by kernel_rfl) (by simp) ?_
                    refine AllReadyH.cons (o := ⟨some 56, _, _, _, _, _⟩) rfl (fun KQ hKQ => ?w6h3_10) AllReadyH.nil
                    case w6h3_10 =>
                      refine step_lvs (W := wz) (w0 := (w9.alloc (.cells #[.int .i64 b.id, .int .u32 (b.addr.toNat : Nat), .int .i64 b.weight] 27))) (sl := .slice A9 m9 c9) (l := [] ++ acc.take vc) (l2 := [b]) BkOk elem_back (fun h => h) (by omega) rfl (.tmp 53) (.tmp 55) rfl (by first | (simp [Act.eval]; done) | (simp [Act.eval]; rfl) | rfl) (LV.go BkOk H9.out ((Kept.refl [] w9).alloc _)) (by first | (simp [Act.eval]; done) | (simp [Act.eval]; rfl) | rfl) (arr_blk (Blk.new w9 _ _) rfl rfl) HL2.out ?_
                      intro A10 m10 c10 w10 h10 k10 r10
                      have RX10 := Lib.hid (BkArr.kept (BkArr.kept RD.out (K9.out.alloc (.cells #[.int .i64 b.id, .int .u32 (b.addr.toNat : Nat), .int .i64 b.weight] 27)) (by simp)) k10 (fun k hk hm => by have h1 := HG.out k hk; have h2 := (r10 k hm).1; omega))
                      have K10 := Lib.hid (Kept.trans (K9.out.alloc (.cells #[.int .i64 b.id, .int .u32 (b.addr.toNat : Nat), .int .i64 b.weight] 27)) k10 (fun k hm => .inr (r10 k hm).1) : Kept [] wz.drew w10)
                      have H10 := Lib.hid h10
                      clear h10 k10 r10
                      refine hKQ.out _ _ (fun i => (Bz.out.kept (Kept.trans ((Kept.refl [] wz).drew) K10.out (by simp)) (by simp)).cell i) (fun hHeld9 => ?_)
                      clear hKQ KQ hHeld
                      have hHeld := hHeld9
                      clear hHeld9
                      try simp only [Act.put, List.setIfInBounds_toArray, List.set_cons_zero, List.set_cons_succ]
                      refine wpAnyH_ready (rs := [10]) (by kernel_rfl) (by simp) ?_
                      refine AllReadyH.cons (o := ⟨some 60, _, _, _, _, _⟩) rfl (fun KQ hKQ => ?w10h3_11) AllReadyH.nil
                      case w10h3_11 =>
                        refine step_lvs (W := wz) (w0 := w10) (sl := .slice A10 m10 c10) (l := [] ++ acc.take vc ++ [b]) (l2 := acc.drop vc) BkOk elem_back (fun h => h) (by omega) rfl (.tmp 56) (.tmp 59) rfl (by first | (simp [Act.eval]; done) | (simp [Act.eval]; rfl) | rfl) H10.out (by first | (simp [Act.eval]; done) | (simp [Act.eval]; rfl) | rfl) RX10.out HL3.out ?_
                        intro A11 m11 c11 w11 h11 k11 r11
                        have H11 := Lib.hid h11
                        have K11 := Lib.hid (Kept.trans K10.out k11 (fun k hm => .inr (r11 k hm).1) : Kept [] wz.drew w11)
                        clear h11 k11 r11
                        refine hKQ.out _ _ (fun i => (Bz.out.kept (Kept.trans ((Kept.refl [] wz).drew) K11.out (by simp)) (by simp)).cell i) (fun hHeld9 => ?_)
                        clear hKQ KQ hHeld
                        have hHeld := hHeld9
                        clear hHeld9
                        try simp only [Act.put, List.setIfInBounds_toArray, List.set_cons_zero, List.set_cons_succ]
                        refine wpAnyH_take (i := 11) (oi := ⟨some 3, _, _, _, _, _⟩) (v := ?vh3_12) rfl (by kernel_rfl) (by kernel_rfl) (by kernel_rfl) (fun _ _ _ h => h) (Or.inl ⟨by kernel_rfl, ?hyh3_12⟩) (by assumption) ?resth3_12
                        case hyh3_12 => (intro w99 hSw; (try dsimp only at hSw); (try go_simp); (try with_reducible rfl); (try omega))
                        simp only [Act.put, List.setIfInBounds_toArray, List.set_cons_zero, List.set_cons_succ]
                        refine wpAnyH_done (by kernel_rfl) ?_ _
                        clear hHeld
                        have V12 := Lib.hid (show BkV w w11 (.slice A11 m11 c11) (accB l (k + 1)) from by
                          have h1 := H11.out
                          rw [FIN.out]
                          exact LV.wide (by simpa using h1) KWz.out)
                        go_wp2
                        go_roundg (m - (k + 1))
                        case measure => omega
                        case rel => exact ⟨k + 1, by omega, by omega, rfl, by go_num, A11, m11, c11, rfl, V12.out⟩
                case w5h3_8 =>
                  go_simp
                  refine hKQ.out _ _ (fun i => ((Bz.out.drew).alloc _).cell i) (fun hHeld9 => ?_)
                  clear hKQ KQ hHeld
                  have hHeld := hHeld9
                  clear hHeld9
                  try simp only [Act.put, List.setIfInBounds_toArray, List.set_cons_zero, List.set_cons_succ]
                  refine wpAnyH_ready (rs := [3]) (by kernel_rfl) (by simp) ?_
                  refine AllReadyH.cons (o := ⟨some 53, _, _, _, _, _⟩) rfl (fun KQ hKQ => ?w3h3_13) AllReadyH.nil
                  case w3h3_13 =>
                    refine step_lvs (W := wz) (w0 := (wz.drew.alloc (.cells #[.int .i64 b.id, .int .u32 (b.addr.toNat : Nat), .int .i64 b.weight] 27))) (sl := .slice none 0 0) (l := []) (l2 := acc.take vc) BkOk elem_back (fun h => h) (by omega) rfl (.const (.slice none 0 0)) (.tmp 52) rfl (by first | (simp [Act.eval]; done) | (simp [Act.eval]; rfl) | rfl) (LV.nil (((Kept.refl [] wz).drew).alloc _)) (by first | (simp [Act.eval]; done) | (simp [Act.eval]; rfl) | rfl) (BkArr.kept TD.out ((Kept.refl [] _).alloc _) (by simp)) HL1.out ?_
                    intro A9 m9 c9 w9 h9 k9 r9
                    have K9 := Lib.hid (Kept.trans (S := []) ((Kept.refl [] wz.drew).alloc (.cells #[.int .i64 b.id, .int .u32 (b.addr.toNat : Nat), .int .i64 b.weight] 27)) (show Kept [] _ w9 from k9) (by simp))
                    have BN9 := Lib.hid ((Blk.new wz.drew _ _).kept (S := []) (show Kept [] (wz.drew.alloc (.cells #[.int .i64 b.id, .int .u32 (b.addr.toNat : Nat), .int .i64 b.weight] 27)) w9 from k9) (by simp))
                    have H9 := Lib.hid h9
                    clear h9 k9 r9
                    refine hKQ.out _ _ (fun i => (Bz.out.kept (Kept.trans ((Kept.refl [] wz).drew) K9.out (by simp)) (by simp)).cell i) (fun hHeld9 => ?_)
                    clear hKQ KQ hHeld
                    have hHeld := hHeld9
                    clear hHeld9
                    try simp only [Act.put, List.setIfInBounds_toArray, List.set_cons_zero, List.set_cons_succ]
                    refine wpAnyH_ready (rs := [6]) (by kernel_rfl) (by simp) ?_
                    refine AllReadyH.cons (o := ⟨some 56, _, _, _, _, _⟩) rfl (fun KQ hKQ => ?w6h3_14) AllReadyH.nil
                    case w6h3_14 =>
                      refine step_lvs (W := wz) (w0 := w9) (sl := .slice A9 m9 c9) (l := [] ++ acc.take vc) (l2 := [b]) BkOk elem_back (fun h => h) (by omega) rfl (.tmp 53) (.tmp 55) rfl (by first | (simp [Act.eval]; done) | (simp [Act.eval]; rfl) | rfl) H9.out (by first | (simp [Act.eval]; done) | (simp [Act.eval]; rfl) | rfl) (arr_blk BN9.out rfl rfl) HL2.out ?_
                      intro A10 m10 c10 w10 h10 k10 r10
                      have RX10 := Lib.hid (BkArr.kept (BkArr.kept RD.out K9.out (by simp)) k10 (fun k hk hm => by have h1 := HG.out k hk; have h2 := (r10 k hm).1; omega))
                      have K10 := Lib.hid (Kept.trans K9.out k10 (fun k hm => .inr (r10 k hm).1) : Kept [] wz.drew w10)
                      have H10 := Lib.hid h10
                      clear h10 k10 r10
                      refine hKQ.out _ _ (fun i => (Bz.out.kept (Kept.trans ((Kept.refl [] wz).drew) K10.out (by simp)) (by simp)).cell i) (fun hHeld9 => ?_)
                      clear hKQ KQ hHeld
                      have hHeld := hHeld9
                      clear hHeld9
                      try simp only [Act.put, List.setIfInBounds_toArray, List.set_cons_zero, List.set_cons_succ]
                      refine wpAnyH_ready (rs := [10]) (by kernel_rfl) (by simp) ?_
                      refine AllReadyH.cons (o := ⟨some 60, _, _, _, _, _⟩) rfl (fun KQ hKQ => ?w10h3_15) AllReadyH.nil
                      case w10h3_15 =>
                        refine step_lvs (W := wz) (w0 := w10) (sl := .slice A10 m10 c10) (l := [] ++ acc.take vc ++ [b]) (l2 := acc.drop vc) BkOk elem_back (fun h => h) (by omega) rfl (.tmp 56) (.tmp 59) rfl (by first | (simp [Act.eval]; done) | (simp [Act.eval]; rfl) | rfl) H10.out (by first | (simp [Act.eval]; done) | (simp [Act.eval]; rfl) | rfl) RX10.out HL3.out ?_
                        intro A11 m11 c11 w11 h11 k11 r11
                        have H11 := Lib.hid h11
                        have K11 := Lib.hid (Kept.trans K10.out k11 (fun k hm => .inr (r11 k hm).1) : Kept [] wz.drew w11)
                        clear h11 k11 r11
                        refine hKQ.out _ _ (fun i => (Bz.out.kept (Kept.trans ((Kept.refl [] wz).drew) K11.out (by simp)) (by simp)).cell i) (fun hHeld9 => ?_)
                        clear hKQ KQ hHeld
                        have hHeld := hHeld9
                        clear hHeld9
                        try simp only [Act.put, List.setIfInBounds_toArray, List.set_cons_zero, List.set_cons_succ]
                        refine wpAnyH_take (i := 11) (oi := ⟨some 3, _, _, _, _, _⟩) (v := ?vh3_16) rfl (by kernel_rfl) (by kernel_rfl) (by kernel_rfl) (fun _ _ _ h => h) (Or.inl ⟨by kernel_rfl, ?hyh3_16⟩) (by assumption) ?resth3_16
                        case hyh3_16 => (intro w99 hSw; (try dsimp only at hSw); (try go_simp); (try with_reducible rfl); (try omega))
                        simp only [Act.put, List.setIfInBounds_toArray, List.set_cons_zero, List.set_cons_succ]
                        refine wpAnyH_done (by kernel_rfl) ?_ _
                        clear hHeld
                        have V12 := Lib.hid (show BkV w w11 (.slice A11 m11 c11) (accB l (k + 1)) from by
                          have h1 := H11.out
                          rw [FIN.out]
                          exact LV.wide (by simpa using h1) KWz.out)
                        go_wp2
                        go_roundg (m - (k + 1))
                        case measure => omega
                        case rel => exact ⟨k + 1, by omega, by omega, rfl, by go_num, A11, m11, c11, rfl, V12.out⟩
              · have RX := Lib.hid (by have h1 := arr_drop (k := j) hAz hj; rw [Nat.zero_add, Nat.sub_self] at h1; exact h1 : BkArr wz Gz (.slice (some ⟨g2, j * 3, none⟩) 0 (vc - j)) (acc.drop j))
                clear hAz hGz
                have HL1 := Lib.hid (show ([] : List BackD).length + (acc.take j).length ≤ 100000 by have := HLA.out; (first | (simp; done) | (simp; omega)))
                have HL2 := Lib.hid (show ([] ++ acc.take j : List BackD).length + [b].length ≤ 100000 by have := HLA.out; (first | (simp; done) | (simp; omega)))
                have HL3 := Lib.hid (show ([] ++ acc.take j ++ [b] : List BackD).length + (acc.drop j).length ≤ 100000 by have := HLA.out; (first | (simp; done) | (simp; omega)))
                go_upto_region 11 with fail
                have TD := Lib.hid (BkArr.kept TX.out ((Kept.refl [] wz).drew) (by simp))
                have RD := Lib.hid (BkArr.kept RX.out ((Kept.refl [] wz).drew) (by simp))
                have hxz := Bz.out.cell
                have hxa := (Bz.out.alloc (.cells #[.int .i64 b.id, .int .u32 (b.addr.toNat : Nat), .int .i64 b.weight] 27)).cell
                refine wp_region_held_drew (S := (fun w' => ∀ i, w'.cell? ⟨q, i, none⟩ = (#[.int .i64 b.id, .int .u32 (b.addr.toNat : Nat), .int .i64 b.weight] : Array Value)[i]?)) (by kernel_rfl) (fun i => hxz i) (fun hHeld => ?_)
                refine wpAnyH_take (i := 0) (oi := ⟨some 50, _, _, _, _, _⟩) (v := ?vh4_1) rfl (by kernel_rfl) (by kernel_rfl) (by kernel_rfl) (fun _ _ _ h => h) (Or.inl ⟨by kernel_rfl, ?hyh4_1⟩) (by assumption) ?resth4_1
                case hyh4_1 => (intro w99 hSw; (try dsimp only at hSw); (try go_simp); (try with_reducible rfl); (try omega))
                simp only [Act.put, List.setIfInBounds_toArray, List.set_cons_zero, List.set_cons_succ]
                refine wpAnyH_take (i := 1) (oi := ⟨some 51, _, _, _, _, _⟩) (v := ?vh4_2) rfl (by kernel_rfl) (by kernel_rfl) (by kernel_rfl) (fun _ _ _ h => h) (Or.inl ⟨by kernel_rfl, ?hyh4_2⟩) (by assumption) ?resth4_2
                case hyh4_2 => (intro w99 hSw; (try dsimp only at hSw); (try go_simp); (try with_reducible rfl); (try omega))
                simp only [Act.put, List.setIfInBounds_toArray, List.set_cons_zero, List.set_cons_succ]
                refine wpAnyH_take (i := 2) (oi := ⟨some 52, _, _, _, _, _⟩) (v := ?vh4_3) rfl (by kernel_rfl) (by kernel_rfl) (by kernel_rfl) (fun _ _ _ h => h) (Or.inl ⟨by kernel_rfl, ?hyh4_3⟩) (by assumption) ?resth4_3
                case hyh4_3 => (intro w99 hSw; (try dsimp only at hSw); (try go_simp); (try with_reducible rfl); (try omega))
                simp only [Act.put, List.setIfInBounds_toArray, List.set_cons_zero, List.set_cons_succ]
                refine wpAnyH_take (i := 4) (oi := ⟨some 54, _, _, _, _, _⟩) (v := ?vh4_4) rfl (by kernel_rfl) (by kernel_rfl) (by kernel_rfl) (fun _ _ _ h => h) (Or.inl ⟨by kernel_rfl, ?hyh4_4⟩) (by assumption) ?resth4_4
                case hyh4_4 => (intro w99 hSw; (try dsimp only at hSw); (try go_simp); (try with_reducible rfl); (try omega))
                simp only [Act.put, List.setIfInBounds_toArray, List.set_cons_zero, List.set_cons_succ]
                refine wpAnyH_take (i := 7) (oi := ⟨some 57, _, _, _, _, _⟩) (v := ?vh4_5) rfl (by kernel_rfl) (by kernel_rfl) (by kernel_rfl) (fun _ _ _ h => h) (Or.inl ⟨by kernel_rfl, ?hyh4_5⟩) (by assumption) ?resth4_5
                case hyh4_5 => (intro w99 hSw; (try dsimp only at hSw); (try go_simp); (try with_reducible rfl); (try omega))
                simp only [Act.put, List.setIfInBounds_toArray, List.set_cons_zero, List.set_cons_succ]
                refine wpAnyH_take (i := 8) (oi := ⟨some 58, _, _, _, _, _⟩) (v := ?vh4_6) rfl (by kernel_rfl) (by kernel_rfl) (by kernel_rfl) (fun _ _ _ h => h) (Or.inl ⟨by kernel_rfl, ?hyh4_6⟩) (by assumption) ?resth4_6
                case hyh4_6 => (intro w99 hSw; (try dsimp only at hSw); (try go_simp); (try with_reducible rfl); (try omega))
                simp only [Act.put, List.setIfInBounds_toArray, List.set_cons_zero, List.set_cons_succ]
                refine wpAnyH_take (i := 9) (oi := ⟨some 59, _, _, _, _, _⟩) (v := ?vh4_7) rfl (by kernel_rfl) (by kernel_rfl) (by kernel_rfl) (fun _ _ _ h => h) (Or.inl ⟨by kernel_rfl, ?hyh4_7⟩) (by assumption) ?resth4_7
                case hyh4_7 => (intro w99 hSw; (try dsimp only at hSw); (try go_simp); (try with_reducible rfl); (try omega))
                simp only [Act.put, List.setIfInBounds_toArray, List.set_cons_zero, List.set_cons_succ]
                refine wpAnyH_ready (rs := [3, 5]) (by kernel_rfl) (by simp) ?_
                refine AllReadyH.cons (o := ⟨some 53, _, _, _, _, _⟩) rfl (fun KQ hKQ => ?w3h4_8) (AllReadyH.cons (o := ⟨some 55, _, _, _, _, _⟩) rfl (fun KQ hKQ => ?w5h4_8) AllReadyH.nil)
                case w3h4_8 =>
                  refine step_lvs (W := wz) (w0 := wz.drew) (sl := .slice none 0 0) (l := []) (l2 := acc.take j) BkOk elem_back (fun h => h) (by omega) rfl (.const (.slice none 0 0)) (.tmp 52) rfl (by first | (simp [Act.eval]; done) | (simp [Act.eval]; rfl) | rfl) (LV.nil ((Kept.refl [] wz).drew)) (by first | (simp [Act.eval]; done) | (simp [Act.eval]; rfl) | rfl) TD.out HL1.out ?_
                  intro A9 m9 c9 w9 h9 k9 r9
                  have K9 := Lib.hid (show Kept [] wz.drew w9 from k9)
                  have H9 := Lib.hid h9
                  clear h9 k9 r9
                  refine hKQ.out _ _ (fun i => (Bz.out.kept (Kept.trans ((Kept.refl [] wz).drew) K9.out (by simp)) (by simp)).cell i) (fun hHeld9 => ?_)
                  clear hKQ KQ hHeld
                  have hHeld := hHeld9
                  clear hHeld9
                  try simp only [Act.put, List.setIfInBounds_toArray, List.set_cons_zero, List.set_cons_succ]
                  refine wpAnyH_ready (rs := [5]) (by kernel_rfl) (by simp) ?_
                  refine AllReadyH.cons (o := ⟨some 55, _, _, _, _, _⟩) rfl (fun KQ hKQ => ?w5h4_9) AllReadyH.nil
                  case w5h4_9 =>
                    go_simp
                    refine hKQ.out _ _ (fun i => ((Bz.out.kept (Kept.trans ((Kept.refl [] wz).drew) K9.out (by simp)) (by simp)).alloc _).cell i) (fun hHeld9 => ?_)
                    clear hKQ KQ hHeld
                    have hHeld := hHeld9
                    clear hHeld9
                    try simp only [Act.put, List.setIfInBounds_toArray, List.set_cons_zero, List.set_cons_succ]
                    refine wpAnyH_ready (rs := [6]) (by kernel_rfl) (by simp) ?_
                    refine AllReadyH.cons (o := ⟨some 56, _, _, _, _, _⟩) rfl (fun KQ hKQ => ?w6h4_10) AllReadyH.nil
                    case w6h4_10 =>
                      refine step_lvs (W := wz) (w0 := (w9.alloc (.cells #[.int .i64 b.id, .int .u32 (b.addr.toNat : Nat), .int .i64 b.weight] 27))) (sl := .slice A9 m9 c9) (l := [] ++ acc.take j) (l2 := [b]) BkOk elem_back (fun h => h) (by omega) rfl (.tmp 53) (.tmp 55) rfl (by first | (simp [Act.eval]; done) | (simp [Act.eval]; rfl) | rfl) (LV.go BkOk H9.out ((Kept.refl [] w9).alloc _)) (by first | (simp [Act.eval]; done) | (simp [Act.eval]; rfl) | rfl) (arr_blk (Blk.new w9 _ _) rfl rfl) HL2.out ?_
                      intro A10 m10 c10 w10 h10 k10 r10
                      have RX10 := Lib.hid (BkArr.kept (BkArr.kept RD.out (K9.out.alloc (.cells #[.int .i64 b.id, .int .u32 (b.addr.toNat : Nat), .int .i64 b.weight] 27)) (by simp)) k10 (fun k hk hm => by have h1 := HG.out k hk; have h2 := (r10 k hm).1; omega))
                      have K10 := Lib.hid (Kept.trans (K9.out.alloc (.cells #[.int .i64 b.id, .int .u32 (b.addr.toNat : Nat), .int .i64 b.weight] 27)) k10 (fun k hm => .inr (r10 k hm).1) : Kept [] wz.drew w10)
                      have H10 := Lib.hid h10
                      clear h10 k10 r10
                      refine hKQ.out _ _ (fun i => (Bz.out.kept (Kept.trans ((Kept.refl [] wz).drew) K10.out (by simp)) (by simp)).cell i) (fun hHeld9 => ?_)
                      clear hKQ KQ hHeld
                      have hHeld := hHeld9
                      clear hHeld9
                      try simp only [Act.put, List.setIfInBounds_toArray, List.set_cons_zero, List.set_cons_succ]
                      refine wpAnyH_ready (rs := [10]) (by kernel_rfl) (by simp) ?_
                      refine AllReadyH.cons (o := ⟨some 60, _, _, _, _, _⟩) rfl (fun KQ hKQ => ?w10h4_11) AllReadyH.nil
                      case w10h4_11 =>
                        refine step_lvs (W := wz) (w0 := w10) (sl := .slice A10 m10 c10) (l := [] ++ acc.take j ++ [b]) (l2 := acc.drop j) BkOk elem_back (fun h => h) (by omega) rfl (.tmp 56) (.tmp 59) rfl (by first | (simp [Act.eval]; done) | (simp [Act.eval]; rfl) | rfl) H10.out (by first | (simp [Act.eval]; done) | (simp [Act.eval]; rfl) | rfl) RX10.out HL3.out ?_
                        intro A11 m11 c11 w11 h11 k11 r11
                        have H11 := Lib.hid h11
                        have K11 := Lib.hid (Kept.trans K10.out k11 (fun k hm => .inr (r11 k hm).1) : Kept [] wz.drew w11)
                        clear h11 k11 r11
                        refine hKQ.out _ _ (fun i => (Bz.out.kept (Kept.trans ((Kept.refl [] wz).drew) K11.out (by simp)) (by simp)).cell i) (fun hHeld9 => ?_)
                        clear hKQ KQ hHeld
                        have hHeld := hHeld9
                        clear hHeld9
                        try simp only [Act.put, List.setIfInBounds_toArray, List.set_cons_zero, List.set_cons_succ]
                        refine wpAnyH_take (i := 11) (oi := ⟨some 3, _, _, _, _, _⟩) (v := ?vh4_12) rfl (by kernel_rfl) (by kernel_rfl) (by kernel_rfl) (fun _ _ _ h => h) (Or.inl ⟨by kernel_rfl, ?hyh4_12⟩) (by assumption) ?resth4_12
                        case hyh4_12 => (intro w99 hSw; (try dsimp only at hSw); (try go_simp); (try with_reducible rfl); (try omega))
                        simp only [Act.put, List.setIfInBounds_toArray, List.set_cons_zero, List.set_cons_succ]
                        refine wpAnyH_done (by kernel_rfl) ?_ _
                        clear hHeld
                        have V12 := Lib.hid (show BkV w w11 (.slice A11 m11 c11) (accB l (k + 1)) from by
                          have h1 := H11.out
                          rw [FIN.out]
                          exact LV.wide (by simpa using h1) KWz.out)
                        go_wp2
                        go_roundg (m - (k + 1))
                        case measure => omega
                        case rel => exact ⟨k + 1, by omega, by omega, rfl, by go_num, A11, m11, c11, rfl, V12.out⟩
                case w5h4_8 =>
                  go_simp
                  refine hKQ.out _ _ (fun i => ((Bz.out.drew).alloc _).cell i) (fun hHeld9 => ?_)
                  clear hKQ KQ hHeld
                  have hHeld := hHeld9
                  clear hHeld9
                  try simp only [Act.put, List.setIfInBounds_toArray, List.set_cons_zero, List.set_cons_succ]
                  refine wpAnyH_ready (rs := [3]) (by kernel_rfl) (by simp) ?_
                  refine AllReadyH.cons (o := ⟨some 53, _, _, _, _, _⟩) rfl (fun KQ hKQ => ?w3h4_13) AllReadyH.nil
                  case w3h4_13 =>
                    refine step_lvs (W := wz) (w0 := (wz.drew.alloc (.cells #[.int .i64 b.id, .int .u32 (b.addr.toNat : Nat), .int .i64 b.weight] 27))) (sl := .slice none 0 0) (l := []) (l2 := acc.take j) BkOk elem_back (fun h => h) (by omega) rfl (.const (.slice none 0 0)) (.tmp 52) rfl (by first | (simp [Act.eval]; done) | (simp [Act.eval]; rfl) | rfl) (LV.nil (((Kept.refl [] wz).drew).alloc _)) (by first | (simp [Act.eval]; done) | (simp [Act.eval]; rfl) | rfl) (BkArr.kept TD.out ((Kept.refl [] _).alloc _) (by simp)) HL1.out ?_
                    intro A9 m9 c9 w9 h9 k9 r9
                    have K9 := Lib.hid (Kept.trans (S := []) ((Kept.refl [] wz.drew).alloc (.cells #[.int .i64 b.id, .int .u32 (b.addr.toNat : Nat), .int .i64 b.weight] 27)) (show Kept [] _ w9 from k9) (by simp))
                    have BN9 := Lib.hid ((Blk.new wz.drew _ _).kept (S := []) (show Kept [] (wz.drew.alloc (.cells #[.int .i64 b.id, .int .u32 (b.addr.toNat : Nat), .int .i64 b.weight] 27)) w9 from k9) (by simp))
                    have H9 := Lib.hid h9
                    clear h9 k9 r9
                    refine hKQ.out _ _ (fun i => (Bz.out.kept (Kept.trans ((Kept.refl [] wz).drew) K9.out (by simp)) (by simp)).cell i) (fun hHeld9 => ?_)
                    clear hKQ KQ hHeld
                    have hHeld := hHeld9
                    clear hHeld9
                    try simp only [Act.put, List.setIfInBounds_toArray, List.set_cons_zero, List.set_cons_succ]
                    refine wpAnyH_ready (rs := [6]) (by kernel_rfl) (by simp) ?_
                    refine AllReadyH.cons (o := ⟨some 56, _, _, _, _, _⟩) rfl (fun KQ hKQ => ?w6h4_14) AllReadyH.nil
                    case w6h4_14 =>
                      refine step_lvs (W := wz) (w0 := w9) (sl := .slice A9 m9 c9) (l := [] ++ acc.take j) (l2 := [b]) BkOk elem_back (fun h => h) (by omega) rfl (.tmp 53) (.tmp 55) rfl (by first | (simp [Act.eval]; done) | (simp [Act.eval]; rfl) | rfl) H9.out (by first | (simp [Act.eval]; done) | (simp [Act.eval]; rfl) | rfl) (arr_blk BN9.out rfl rfl) HL2.out ?_
                      intro A10 m10 c10 w10 h10 k10 r10
                      have RX10 := Lib.hid (BkArr.kept (BkArr.kept RD.out K9.out (by simp)) k10 (fun k hk hm => by have h1 := HG.out k hk; have h2 := (r10 k hm).1; omega))
                      have K10 := Lib.hid (Kept.trans K9.out k10 (fun k hm => .inr (r10 k hm).1) : Kept [] wz.drew w10)
                      have H10 := Lib.hid h10
                      clear h10 k10 r10
                      refine hKQ.out _ _ (fun i => (Bz.out.kept (Kept.trans ((Kept.refl [] wz).drew) K10.out (by simp)) (by simp)).cell i) (fun hHeld9 => ?_)
                      clear hKQ KQ hHeld
                      have hHeld := hHeld9
                      clear hHeld9
                      try simp only [Act.put, List.setIfInBounds_toArray, List.set_cons_zero, List.set_cons_succ]
                      refine wpAnyH_ready (rs := [10]) (by kernel_rfl) (by simp) ?_
                      refine AllReadyH.cons (o := ⟨some 60, _, _, _, _, _⟩) rfl (fun KQ hKQ => ?w10h4_15) AllReadyH.nil
                      case w10h4_15 =>
                        refine step_lvs (W := wz) (w0 := w10) (sl := .slice A10 m10 c10) (l := [] ++ acc.take j ++ [b]) (l2 := acc.drop j) BkOk elem_back (fun h => h) (by omega) rfl (.tmp 56) (.tmp 59) rfl (by first | (simp [Act.eval]; done) | (simp [Act.eval]; rfl) | rfl) H10.out (by first | (simp [Act.eval]; done) | (simp [Act.eval]; rfl) | rfl) RX10.out HL3.out ?_
                        intro A11 m11 c11 w11 h11 k11 r11
                        have H11 := Lib.hid h11
                        have K11 := Lib.hid (Kept.trans K10.out k11 (fun k hm => .inr (r11 k hm).1) : Kept [] wz.drew w11)
                        clear h11 k11 r11
                        refine hKQ.out _ _ (fun i => (Bz.out.kept (Kept.trans ((Kept.refl [] wz).drew) K11.out (by simp)) (by simp)).cell i) (fun hHeld9 => ?_)
                        clear hKQ KQ hHeld
                        have hHeld := hHeld9
                        clear hHeld9
                        try simp only [Act.put, List.setIfInBounds_toArray, List.set_cons_zero, List.set_cons_succ]
                        refine wpAnyH_take (i := 11) (oi := ⟨some 3, _, _, _, _, _⟩) (v := ?vh4_16) rfl (by kernel_rfl) (by kernel_rfl) (by kernel_rfl) (fun _ _ _ h => h) (Or.inl ⟨by kernel_rfl, ?hyh4_16⟩) (by assumption) ?resth4_16
                        case hyh4_16 => (intro w99 hSw; (try dsimp only at hSw); (try go_simp); (try with_reducible rfl); (try omega))
                        simp only [Act.put, List.setIfInBounds_toArray, List.set_cons_zero, List.set_cons_succ]
                        refine wpAnyH_done (by kernel_rfl) ?_ _
                        clear hHeld
                        have V12 := Lib.hid (show BkV w w11 (.slice A11 m11 c11) (accB l (k + 1)) from by
                          have h1 := H11.out
                          rw [FIN.out]
                          exact LV.wide (by simpa using h1) KWz.out)
                        go_wp2
                        go_roundg (m - (k + 1))
                        case measure => omega
                        case rel => exact ⟨k + 1, by omega, by omega, rfl, by go_num, A11, m11, c11, rfl, V12.out⟩
    · obtain rfl : k = m := by omega
      have HR := Lib.hid (show rsortB l = accB l k from rsortB_acc (.inr ⟨hk16, A1.out⟩))
      go_wp2
      go_ret
      exact ⟨_, rfl, by rw [HR.out]; exact V.out⟩
end
end Go.Proofs.YtgndijdhmkphaaaGreatDoor
