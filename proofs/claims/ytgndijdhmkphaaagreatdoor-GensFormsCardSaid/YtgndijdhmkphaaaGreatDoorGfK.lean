/-
  The document's BackendsText. (GensForms)
-/
import Derived.Deep.RegionWith
import Derived.Deep.DeepCutAuto
import Derived.Deep.RegionHeld3
import Derived.Test.YtgndijdhmkphaaaGreatDoorGenU
import Derived.Test.YtgndijdhmkphaaaGreatDoorGfJ
namespace Go.Proofs.YtgndijdhmkphaaaGreatDoor
set_option linter.unusedVariables false
section
open Go.RowKit Go.ChangeShapes Go.WideShapes Go.ChangeAt Go.Deep
set_option maxRecDepth 100000
def textK (l : List BackD) (k : Nat) : List UInt8 := Lib.join ((l.take k).map backT) [44]
theorem textK_one {l : List BackD} {b : BackD} (h : l[0]? = some b) : textK l 1 = backT b := by
  cases l with
  | nil => simp at h
  | cons a l => simp at h; subst h; simp [textK, Lib.join]
theorem textK_succ {l : List BackD} {k : Nat} {b : BackD} (h : l[k]? = some b) (h0 : 0 < k) : textK l (k + 1) = textK l k ++ (44 :: backT b) := by
  unfold textK
  rw [List.take_add_one, h]
  obtain ⟨x, t, hx⟩ : ∃ x t, l.take k = x :: t := by
    obtain ⟨j, rfl⟩ : ∃ j, k = j + 1 := ⟨k - 1, by omega⟩
    cases l with
    | nil => simp at h
    | cons x l => exact ⟨_, _, rfl⟩
  rw [hx]
  simp only [Option.toList, List.map_append, List.map_cons, List.map_nil]
  exact join_snoc _ _ _ _
theorem textK_all {l : List BackD} (h : l ≠ []) : textK l l.length = textB l := by
  unfold textK textB
  rw [if_neg h, List.take_length]
set_option maxHeartbeats 3200000 in
theorem rText_any (w : World) {G : List Nat} {A : Option Addr} {m c : Nat} (l : List BackD) (h : BkArr w G (.slice A m c) l) (hl : ∀ b ∈ l, numB b) (hm : m ≤ 1000) (ht : PowTab w) :
    Calls Tryz.prog 21 #[.slice A m c] w fun e w' => e = .returned (.string (strOf (textB l))) ∧ Kept [] w w' := by
  have HT := Lib.hid (fun w' (hk : Kept [] w w') => tab_kept ht (g := 3) (by kernel_rfl) hk (by simp))
  obtain ⟨a1, a2, a3, a4⟩ := h.len
  have H := Lib.hid h
  have A1 := Lib.hid a1
  have HL := Lib.hid hl
  clear h a1 a4 ht hl
  unfold maxLen at a3
  by_cases h0 : m = 0
  · have hres := Lib.hid (show textB l = [45] by
      have : l = [] := List.eq_nil_of_length_eq_zero (A1.out.trans h0)
      rw [this]; rfl)
    have i1 : ((m : Int) == 0) = true := by simp [h0]
    have i2 : (m : Int) = 0 := by omega
    subst h0
    go_enter Tryz.func21, Tryz.ntmps21
    go_wp2
    go_ret
    exact ⟨by rw [hres.out]; rfl, Kept.refl _ _⟩
  · have i1 : ((m : Int) == 0) = false := beq_false_of_ne (by omega)
    have i2 : ¬ (m : Int) = 0 := by omega
    have K0 := Lib.hid (Kept.refl [] w)
    have HALL := Lib.hid (show textK l m = textB l from by rw [← A1.out]; exact textK_all (fun e => h0 (by rw [← A1.out, e]; rfl)))
    go_enter Tryz.func21, Tryz.ntmps21
    go_wp2
    go_loopg [3, 11] m (fun g v i wr => ∃ (k : Nat) (sk : ByteArray), k ≤ m ∧ g = m - k ∧ i = .int .i64 k ∧ v = .string sk ∧ Hid (strOf (textK l k) = sk) ∧ Hid (sk.size ≤ 60 * k) ∧ Kept [] w wr)
    case atStart => exact ⟨0, _, by omega, by omega, rfl, rfl, Lib.hid (show strOf (textK l 0) = ⟨#[]⟩ from by first | rfl | (simp [textK, Lib.join, strOf]; rfl)), Lib.hid (Nat.le_refl 0), Kept.refl _ _⟩
    case round =>
      obtain ⟨k, sk, hk, rfl, rfl, rfl, hS, hZ, hkw⟩ := hrel
      have KW := Lib.hid hkw
      clear hkw
      have zk := hZ.out
      by_cases hlt : k < m
      · have hkl : k < l.length := by rw [A1.out]; exact hlt
        obtain ⟨g, o, rfl, hg, hgG, c0, c1, c2⟩ := (BkArr.kept H.out KW.out (by simp)).at (k := k) hkl
        have hnum := HL.out _ (List.getElem_mem hkl)
        have hget : l[k]? = some (l[k]'hkl) := List.getElem?_eq_getElem hkl
        generalize l[k]'hkl = b at *
        clear hkl
        obtain ⟨⟨n1, n2⟩, n3, n4⟩ := hnum
        have i4 : (0 : Int) ≤ (k : Int) := by omega
        have i5 : (k : Int) < (m : Int) := by omega
        obtain ⟨si, hsi⟩ : ∃ s, strOf (Lib.itoa b.id) = s := ⟨_, rfl⟩
        obtain ⟨sa, hsa⟩ : ∃ s, strOf (addrF b.addr) = s := ⟨_, rfl⟩
        obtain ⟨sj, hsj⟩ : ∃ s, strOf (Lib.itoa b.weight) = s := ⟨_, rfl⟩
        have zi : si.size ≤ 20 := by rw [← hsi, strOf_size]; exact itoa_len ⟨n1, n2⟩
        have za : sa.size ≤ 15 := by rw [← hsa, strOf_size]; exact addrF_len _
        have zj : sj.size ≤ 20 := by rw [← hsj, strOf_size]; exact itoa_len ⟨n3, n4⟩
        have EI := Lib.hid hsi
        have EA := Lib.hid hsa
        have EJ := Lib.hid hsj
        have HC := Lib.hid (show (((((si ++ ⟨#[64]⟩) ++ sa) ++ ⟨#[42]⟩) ++ sj) : ByteArray) = strOf (backT b) by rw [← hsi, ← hsa, ← hsj, back_cat]; rfl)
        clear hsi hsa hsj
        have z1 : (9223372036854775807 < si.size + 1) = False := eq_false (by omega)
        have z2 : (9223372036854775807 < si.size + 1 + sa.size) = False := eq_false (by omega)
        have z3 : (9223372036854775807 < si.size + 1 + sa.size + 1) = False := eq_false (by omega)
        have z4 : (9223372036854775807 < si.size + 1 + sa.size + 1 + sj.size) = False := eq_false (by omega)
        have z6 : (9223372036854775807 < sk.size + 1) = False := eq_false (by omega)
        obtain ⟨q, hq⟩ : ∃ q, wr.heap.size = q := ⟨_, rfl⟩
        have BN := Lib.hid (show Blk (wr.alloc (.cells #[.int .i64 b.id, .int .u32 (b.addr.toNat : Nat), .int .i64 b.weight] 27)) q 27 #[.int .i64 b.id, .int .u32 (b.addr.toNat : Nat), .int .i64 b.weight] from by rw [← hq]; exact Blk.new _ _ _)
        have KN := Lib.hid (KW.out.alloc (.cells #[.int .i64 b.id, .int .u32 (b.addr.toNat : Nat), .int .i64 b.weight] 27))
        have HQ := Lib.hid hq
        by_cases hk0 : k = 0
        · have HN := Lib.hid (show strOf (textK l (k + 1)) = sk ++ ((((si ++ ⟨#[64]⟩) ++ sa) ++ ⟨#[42]⟩) ++ sj) from by
            rw [HC.out, ← hS.out]
            subst hk0; rw [textK_one hget, show textK l 0 = [] from by simp [textK, Lib.join]]; rw [strOf_app]; rfl)
          have z5 : (9223372036854775807 < sk.size + (si.size + 1 + sa.size + 1 + sj.size)) = False := eq_false (by omega)
          have i6 : ¬ (0 : Int) < (k : Int) := by omega
          have HZN := Lib.hid (show (sk ++ ((((si ++ ⟨#[64]⟩) ++ sa) ++ ⟨#[42]⟩) ++ sj)).size ≤ 60 * (k + 1) from by
            simp only [ByteArray.size_append, show (⟨#[64]⟩ : ByteArray).size = 1 from rfl, show (⟨#[42]⟩ : ByteArray).size = 1 from rfl]
            omega)
          clear hget hk0
          go_upto_region 9 with fail
          try rw [hq]
          have KW := Lib.hid KN.out
          have B := Lib.hid BN.out
          generalize wr.alloc (.cells #[.int .i64 b.id, .int .u32 (b.addr.toNat : Nat), .int .i64 b.weight] 27) = w5 at *
          refine wp_region_held_drew (S := (fun w' => ∀ o, w'.cell? ⟨q, o, none⟩ = (#[.int .i64 b.id, .int .u32 (b.addr.toNat : Nat), .int .i64 b.weight] : Array Value)[o]?)) (by kernel_rfl) (fun o => (B.out.drew).cell o) (fun hHeld => ?_)
          have KW := Lib.hid KW.out.drew
          have B := Lib.hid B.out.drew
          refine wpAnyH_take (i := 0) (oi := ⟨some 20, _, _, _, _, _⟩) (v := ?vr1_1) rfl (by kernel_rfl) (by kernel_rfl) (by kernel_rfl) (fun _ _ _ h => h) (Or.inl ⟨by kernel_rfl, ?hyr1_1⟩) (by assumption) ?restr1_1
          case hyr1_1 => (intro w99 hSw; (try dsimp only at hSw); (try go_simp); (try with_reducible rfl); (try omega))
          simp only [Act.put, List.setIfInBounds_toArray, List.set_cons_zero, List.set_cons_succ]
          refine wpAnyH_take (i := 1) (oi := ⟨some 21, _, _, _, _, _⟩) (v := ?vr1_2) rfl (by kernel_rfl) (by kernel_rfl) (by kernel_rfl) (fun _ _ _ h => h) (Or.inl ⟨by kernel_rfl, ?hyr1_2⟩) (by assumption) ?restr1_2
          case hyr1_2 => (intro w99 hSw; (try dsimp only at hSw); (try go_simp); (try with_reducible rfl); (try omega))
          simp only [Act.put, List.setIfInBounds_toArray, List.set_cons_zero, List.set_cons_succ]
          refine wpAnyH_take (i := 2) (oi := ⟨some 22, _, _, _, _, _⟩) (v := ?vr1_3) rfl (by kernel_rfl) (by kernel_rfl) (by kernel_rfl) (fun _ _ _ h => h) (Or.inl ⟨by kernel_rfl, ?hyr1_3⟩) (by assumption) ?restr1_3
          case hyr1_3 => (intro w99 hSw; (try dsimp only at hSw); (try go_simp); (try with_reducible rfl); (try omega))
          simp only [Act.put, List.setIfInBounds_toArray, List.set_cons_zero, List.set_cons_succ]
          refine wpAnyH_take (i := 5) (oi := ⟨some 25, _, _, _, _, _⟩) (v := ?vr1_4) rfl (by kernel_rfl) (by kernel_rfl) (by kernel_rfl) (fun _ _ _ h => h) (Or.inl ⟨by kernel_rfl, ?hyr1_4⟩) (by assumption) ?restr1_4
          case hyr1_4 => (intro w99 hSw; (try dsimp only at hSw); (try go_simp); (try with_reducible rfl); (try omega))
          simp only [Act.put, List.setIfInBounds_toArray, List.set_cons_zero, List.set_cons_succ]
          refine wpAnyH_take (i := 6) (oi := ⟨some 26, _, _, _, _, _⟩) (v := ?vr1_5) rfl (by kernel_rfl) (by kernel_rfl) (by kernel_rfl) (fun _ _ _ h => h) (Or.inl ⟨by kernel_rfl, ?hyr1_5⟩) (by assumption) ?restr1_5
          case hyr1_5 => (intro w99 hSw; (try dsimp only at hSw); (try go_simp); (try with_reducible rfl); (try omega))
          simp only [Act.put, List.setIfInBounds_toArray, List.set_cons_zero, List.set_cons_succ]
          refine wpAnyH_take (i := 10) (oi := ⟨some 30, _, _, _, _, _⟩) (v := ?vr1_6) rfl (by kernel_rfl) (by kernel_rfl) (by kernel_rfl) (fun _ _ _ h => h) (Or.inl ⟨by kernel_rfl, ?hyr1_6⟩) (by assumption) ?restr1_6
          case hyr1_6 => (intro w99 hSw; (try dsimp only at hSw); (try go_simp); (try with_reducible rfl); (try omega))
          simp only [Act.put, List.setIfInBounds_toArray, List.set_cons_zero, List.set_cons_succ]
          refine wpAnyH_take (i := 11) (oi := ⟨some 31, _, _, _, _, _⟩) (v := ?vr1_7) rfl (by kernel_rfl) (by kernel_rfl) (by kernel_rfl) (fun _ _ _ h => h) (Or.inl ⟨by kernel_rfl, ?hyr1_7⟩) (by assumption) ?restr1_7
          case hyr1_7 => (intro w99 hSw; (try dsimp only at hSw); (try go_simp); (try with_reducible rfl); (try omega))
          simp only [Act.put, List.setIfInBounds_toArray, List.set_cons_zero, List.set_cons_succ]
          refine wpAnyH_ready (rs := [3]) (by kernel_rfl) (by simp) ?_
          refine AllReadyH.cons (o := ⟨some 23, _, _, _, _, _⟩) rfl (fun KQ hKQ => ?w3r1_8) AllReadyH.nil
          case w3r1_8 =>
            go_simp
            go_at_call 43
            with_reducible refine (Itoa_any _ b.id n1 n2 (HT.out _ (K0.out.trans KW.out (by simp)))).mono ?_
            rintro e x1 ⟨rfl, k1⟩
            rw [EI.out]
            have KW := Lib.hid (KW.out.trans k1 (by simp))
            have B := Lib.hid (B.out.kept k1 (by simp))
            clear k1
            go_wp2_with fail
            refine hKQ.out _ _ (fun o => B.out.cell o) (fun hHeld9 => ?_)
            clear hKQ KQ hHeld
            have hHeld := hHeld9
            clear hHeld9
            try simp only [Act.put, List.setIfInBounds_toArray, List.set_cons_zero, List.set_cons_succ]
            refine wpAnyH_take (i := 4) (oi := ⟨some 24, _, _, _, _, _⟩) (v := ?vr1_9) rfl (by kernel_rfl) (by kernel_rfl) (by kernel_rfl) (fun _ _ _ h => h) (Or.inl ⟨by kernel_rfl, ?hyr1_9⟩) (by assumption) ?restr1_9
            case hyr1_9 => (intro w99 hSw; (try dsimp only at hSw); (try go_simp); (try with_reducible rfl); (try omega))
            simp only [Act.put, List.setIfInBounds_toArray, List.set_cons_zero, List.set_cons_succ]
            refine wpAnyH_ready (rs := [7]) (by kernel_rfl) (by simp) ?_
            refine AllReadyH.cons (o := ⟨some 27, _, _, _, _, _⟩) rfl (fun KQ hKQ => ?w7r1_10) AllReadyH.nil
            case w7r1_10 =>
              go_simp
              go_at_call 46
              with_reducible refine (rAddr_any _ b.addr (HT.out _ (K0.out.trans KW.out (by simp)))).mono ?_
              rintro e x2 ⟨rfl, k1⟩
              rw [EA.out]
              have KW := Lib.hid (KW.out.trans k1 (by simp))
              have B := Lib.hid (B.out.kept k1 (by simp))
              clear k1
              go_wp2_with fail
              refine hKQ.out _ _ (fun o => B.out.cell o) (fun hHeld9 => ?_)
              clear hKQ KQ hHeld
              have hHeld := hHeld9
              clear hHeld9
              try simp only [Act.put, List.setIfInBounds_toArray, List.set_cons_zero, List.set_cons_succ]
              refine wpAnyH_take (i := 8) (oi := ⟨some 28, _, _, _, _, _⟩) (v := ?vr1_11) rfl (by kernel_rfl) (by kernel_rfl) (by kernel_rfl) (fun _ _ _ h => h) (Or.inl ⟨by kernel_rfl, ?hyr1_11⟩) (by assumption) ?restr1_11
              case hyr1_11 => (intro w99 hSw; (try dsimp only at hSw); (try go_simp); (try with_reducible rfl); (try omega))
              simp only [Act.put, List.setIfInBounds_toArray, List.set_cons_zero, List.set_cons_succ]
              refine wpAnyH_take (i := 9) (oi := ⟨some 29, _, _, _, _, _⟩) (v := ?vr1_12) rfl (by kernel_rfl) (by kernel_rfl) (by kernel_rfl) (fun _ _ _ h => h) (Or.inl ⟨by kernel_rfl, ?hyr1_12⟩) (by assumption) ?restr1_12
              case hyr1_12 => (intro w99 hSw; (try dsimp only at hSw); (try go_simp); (try with_reducible rfl); (try omega))
              simp only [Act.put, List.setIfInBounds_toArray, List.set_cons_zero, List.set_cons_succ]
              refine wpAnyH_ready (rs := [12]) (by kernel_rfl) (by simp) ?_
              refine AllReadyH.cons (o := ⟨some 32, _, _, _, _, _⟩) rfl (fun KQ hKQ => ?w12r1_13) AllReadyH.nil
              case w12r1_13 =>
                go_simp
                go_at_call 43
                with_reducible refine (Itoa_any _ b.weight n3 n4 (HT.out _ (K0.out.trans KW.out (by simp)))).mono ?_
                rintro e x3 ⟨rfl, k1⟩
                rw [EJ.out]
                have KW := Lib.hid (KW.out.trans k1 (by simp))
                have B := Lib.hid (B.out.kept k1 (by simp))
                clear k1
                go_wp2_with fail
                refine hKQ.out _ _ (fun o => B.out.cell o) (fun hHeld9 => ?_)
                clear hKQ KQ hHeld
                have hHeld := hHeld9
                clear hHeld9
                try simp only [Act.put, List.setIfInBounds_toArray, List.set_cons_zero, List.set_cons_succ]
                refine wpAnyH_take (i := 13) (oi := ⟨some 33, _, _, _, _, _⟩) (v := ?vr1_14) rfl (by kernel_rfl) (by kernel_rfl) (by kernel_rfl) (fun _ _ _ h => h) (Or.inl ⟨by kernel_rfl, ?hyr1_14⟩) (by assumption) ?restr1_14
                case hyr1_14 => (intro w99 hSw; (try dsimp only at hSw); (try go_simp); (try with_reducible rfl); (try omega))
                simp only [Act.put, List.setIfInBounds_toArray, List.set_cons_zero, List.set_cons_succ]
                refine wpAnyH_take (i := 14) (oi := ⟨some 34, _, _, _, _, _⟩) (v := ?vr1_15) rfl (by kernel_rfl) (by kernel_rfl) (by kernel_rfl) (fun _ _ _ h => h) (Or.inl ⟨by kernel_rfl, ?hyr1_15⟩) (by assumption) ?restr1_15
                case hyr1_15 => (intro w99 hSw; (try dsimp only at hSw); (try go_simp); (try with_reducible rfl); (try omega))
                simp only [Act.put, List.setIfInBounds_toArray, List.set_cons_zero, List.set_cons_succ]
                refine wpAnyH_take (i := 15) (oi := ⟨some 3, _, _, _, _, _⟩) (v := ?vr1_16) rfl (by kernel_rfl) (by kernel_rfl) (by kernel_rfl) (fun _ _ _ h => h) (Or.inl ⟨by kernel_rfl, ?hyr1_16⟩) (by assumption) ?restr1_16
                case hyr1_16 => (intro w99 hSw; (try dsimp only at hSw); (try go_simp); (try with_reducible rfl); (try omega))
                simp only [Act.put, List.setIfInBounds_toArray, List.set_cons_zero, List.set_cons_succ]
                refine wpAnyH_done (by kernel_rfl) ?_ _
                clear hHeld
                go_wp2
                go_roundg (m - (k + 1))
                case measure => omega
                case rel => exact ⟨k + 1, _, by omega, rfl, by go_num, rfl, Lib.hid HN.out, Lib.hid HZN.out, KW.out⟩
        · have HN := Lib.hid (show strOf (textK l (k + 1)) = (sk ++ ⟨#[44]⟩) ++ ((((si ++ ⟨#[64]⟩) ++ sa) ++ ⟨#[42]⟩) ++ sj) from by
            rw [HC.out, ← hS.out]
            rw [textK_succ hget (by omega), show (⟨#[44]⟩ : ByteArray) = strOf [44] from rfl, strOf_app, strOf_app]; simp)
          have z5 : (9223372036854775807 < (sk.size + 1) + (si.size + 1 + sa.size + 1 + sj.size)) = False := eq_false (by omega)
          have i6 :  (0 : Int) < (k : Int) := by omega
          have HZN := Lib.hid (show ((sk ++ ⟨#[44]⟩) ++ ((((si ++ ⟨#[64]⟩) ++ sa) ++ ⟨#[42]⟩) ++ sj)).size ≤ 60 * (k + 1) from by
            simp only [ByteArray.size_append, show (⟨#[64]⟩ : ByteArray).size = 1 from rfl, show (⟨#[42]⟩ : ByteArray).size = 1 from rfl, show (⟨#[44]⟩ : ByteArray).size = 1 from rfl]
            omega)
          clear hget hk0
          go_upto_region 9 with fail
          try rw [hq]
          have KW := Lib.hid KN.out
          have B := Lib.hid BN.out
          generalize wr.alloc (.cells #[.int .i64 b.id, .int .u32 (b.addr.toNat : Nat), .int .i64 b.weight] 27) = w5 at *
          refine wp_region_held_drew (S := (fun w' => ∀ o, w'.cell? ⟨q, o, none⟩ = (#[.int .i64 b.id, .int .u32 (b.addr.toNat : Nat), .int .i64 b.weight] : Array Value)[o]?)) (by kernel_rfl) (fun o => (B.out.drew).cell o) (fun hHeld => ?_)
          have KW := Lib.hid KW.out.drew
          have B := Lib.hid B.out.drew
          refine wpAnyH_take (i := 0) (oi := ⟨some 20, _, _, _, _, _⟩) (v := ?vr2_17) rfl (by kernel_rfl) (by kernel_rfl) (by kernel_rfl) (fun _ _ _ h => h) (Or.inl ⟨by kernel_rfl, ?hyr2_17⟩) (by assumption) ?restr2_17
          case hyr2_17 => (intro w99 hSw; (try dsimp only at hSw); (try go_simp); (try with_reducible rfl); (try omega))
          simp only [Act.put, List.setIfInBounds_toArray, List.set_cons_zero, List.set_cons_succ]
          refine wpAnyH_take (i := 1) (oi := ⟨some 21, _, _, _, _, _⟩) (v := ?vr2_18) rfl (by kernel_rfl) (by kernel_rfl) (by kernel_rfl) (fun _ _ _ h => h) (Or.inl ⟨by kernel_rfl, ?hyr2_18⟩) (by assumption) ?restr2_18
          case hyr2_18 => (intro w99 hSw; (try dsimp only at hSw); (try go_simp); (try with_reducible rfl); (try omega))
          simp only [Act.put, List.setIfInBounds_toArray, List.set_cons_zero, List.set_cons_succ]
          refine wpAnyH_take (i := 2) (oi := ⟨some 22, _, _, _, _, _⟩) (v := ?vr2_19) rfl (by kernel_rfl) (by kernel_rfl) (by kernel_rfl) (fun _ _ _ h => h) (Or.inl ⟨by kernel_rfl, ?hyr2_19⟩) (by assumption) ?restr2_19
          case hyr2_19 => (intro w99 hSw; (try dsimp only at hSw); (try go_simp); (try with_reducible rfl); (try omega))
          simp only [Act.put, List.setIfInBounds_toArray, List.set_cons_zero, List.set_cons_succ]
          refine wpAnyH_take (i := 5) (oi := ⟨some 25, _, _, _, _, _⟩) (v := ?vr2_20) rfl (by kernel_rfl) (by kernel_rfl) (by kernel_rfl) (fun _ _ _ h => h) (Or.inl ⟨by kernel_rfl, ?hyr2_20⟩) (by assumption) ?restr2_20
          case hyr2_20 => (intro w99 hSw; (try dsimp only at hSw); (try go_simp); (try with_reducible rfl); (try omega))
          simp only [Act.put, List.setIfInBounds_toArray, List.set_cons_zero, List.set_cons_succ]
          refine wpAnyH_take (i := 6) (oi := ⟨some 26, _, _, _, _, _⟩) (v := ?vr2_21) rfl (by kernel_rfl) (by kernel_rfl) (by kernel_rfl) (fun _ _ _ h => h) (Or.inl ⟨by kernel_rfl, ?hyr2_21⟩) (by assumption) ?restr2_21
          case hyr2_21 => (intro w99 hSw; (try dsimp only at hSw); (try go_simp); (try with_reducible rfl); (try omega))
          simp only [Act.put, List.setIfInBounds_toArray, List.set_cons_zero, List.set_cons_succ]
          refine wpAnyH_take (i := 10) (oi := ⟨some 30, _, _, _, _, _⟩) (v := ?vr2_22) rfl (by kernel_rfl) (by kernel_rfl) (by kernel_rfl) (fun _ _ _ h => h) (Or.inl ⟨by kernel_rfl, ?hyr2_22⟩) (by assumption) ?restr2_22
          case hyr2_22 => (intro w99 hSw; (try dsimp only at hSw); (try go_simp); (try with_reducible rfl); (try omega))
          simp only [Act.put, List.setIfInBounds_toArray, List.set_cons_zero, List.set_cons_succ]
          refine wpAnyH_take (i := 11) (oi := ⟨some 31, _, _, _, _, _⟩) (v := ?vr2_23) rfl (by kernel_rfl) (by kernel_rfl) (by kernel_rfl) (fun _ _ _ h => h) (Or.inl ⟨by kernel_rfl, ?hyr2_23⟩) (by assumption) ?restr2_23
          case hyr2_23 => (intro w99 hSw; (try dsimp only at hSw); (try go_simp); (try with_reducible rfl); (try omega))
          simp only [Act.put, List.setIfInBounds_toArray, List.set_cons_zero, List.set_cons_succ]
          refine wpAnyH_ready (rs := [3]) (by kernel_rfl) (by simp) ?_
          refine AllReadyH.cons (o := ⟨some 23, _, _, _, _, _⟩) rfl (fun KQ hKQ => ?w3r2_24) AllReadyH.nil
          case w3r2_24 =>
            go_simp
            go_at_call 43
            with_reducible refine (Itoa_any _ b.id n1 n2 (HT.out _ (K0.out.trans KW.out (by simp)))).mono ?_
            rintro e x1 ⟨rfl, k1⟩
            rw [EI.out]
            have KW := Lib.hid (KW.out.trans k1 (by simp))
            have B := Lib.hid (B.out.kept k1 (by simp))
            clear k1
            go_wp2_with fail
            refine hKQ.out _ _ (fun o => B.out.cell o) (fun hHeld9 => ?_)
            clear hKQ KQ hHeld
            have hHeld := hHeld9
            clear hHeld9
            try simp only [Act.put, List.setIfInBounds_toArray, List.set_cons_zero, List.set_cons_succ]
            refine wpAnyH_take (i := 4) (oi := ⟨some 24, _, _, _, _, _⟩) (v := ?vr2_25) rfl (by kernel_rfl) (by kernel_rfl) (by kernel_rfl) (fun _ _ _ h => h) (Or.inl ⟨by kernel_rfl, ?hyr2_25⟩) (by assumption) ?restr2_25
            case hyr2_25 => (intro w99 hSw; (try dsimp only at hSw); (try go_simp); (try with_reducible rfl); (try omega))
            simp only [Act.put, List.setIfInBounds_toArray, List.set_cons_zero, List.set_cons_succ]
            refine wpAnyH_ready (rs := [7]) (by kernel_rfl) (by simp) ?_
            refine AllReadyH.cons (o := ⟨some 27, _, _, _, _, _⟩) rfl (fun KQ hKQ => ?w7r2_26) AllReadyH.nil
            case w7r2_26 =>
              go_simp
              go_at_call 46
              with_reducible refine (rAddr_any _ b.addr (HT.out _ (K0.out.trans KW.out (by simp)))).mono ?_
              rintro e x2 ⟨rfl, k1⟩
              rw [EA.out]
              have KW := Lib.hid (KW.out.trans k1 (by simp))
              have B := Lib.hid (B.out.kept k1 (by simp))
              clear k1
              go_wp2_with fail
              refine hKQ.out _ _ (fun o => B.out.cell o) (fun hHeld9 => ?_)
              clear hKQ KQ hHeld
              have hHeld := hHeld9
              clear hHeld9
              try simp only [Act.put, List.setIfInBounds_toArray, List.set_cons_zero, List.set_cons_succ]
              refine wpAnyH_take (i := 8) (oi := ⟨some 28, _, _, _, _, _⟩) (v := ?vr2_27) rfl (by kernel_rfl) (by kernel_rfl) (by kernel_rfl) (fun _ _ _ h => h) (Or.inl ⟨by kernel_rfl, ?hyr2_27⟩) (by assumption) ?restr2_27
              case hyr2_27 => (intro w99 hSw; (try dsimp only at hSw); (try go_simp); (try with_reducible rfl); (try omega))
              simp only [Act.put, List.setIfInBounds_toArray, List.set_cons_zero, List.set_cons_succ]
              refine wpAnyH_take (i := 9) (oi := ⟨some 29, _, _, _, _, _⟩) (v := ?vr2_28) rfl (by kernel_rfl) (by kernel_rfl) (by kernel_rfl) (fun _ _ _ h => h) (Or.inl ⟨by kernel_rfl, ?hyr2_28⟩) (by assumption) ?restr2_28
              case hyr2_28 => (intro w99 hSw; (try dsimp only at hSw); (try go_simp); (try with_reducible rfl); (try omega))
              simp only [Act.put, List.setIfInBounds_toArray, List.set_cons_zero, List.set_cons_succ]
              refine wpAnyH_ready (rs := [12]) (by kernel_rfl) (by simp) ?_
              refine AllReadyH.cons (o := ⟨some 32, _, _, _, _, _⟩) rfl (fun KQ hKQ => ?w12r2_29) AllReadyH.nil
              case w12r2_29 =>
                go_simp
                go_at_call 43
                with_reducible refine (Itoa_any _ b.weight n3 n4 (HT.out _ (K0.out.trans KW.out (by simp)))).mono ?_
                rintro e x3 ⟨rfl, k1⟩
                rw [EJ.out]
                have KW := Lib.hid (KW.out.trans k1 (by simp))
                have B := Lib.hid (B.out.kept k1 (by simp))
                clear k1
                go_wp2_with fail
                refine hKQ.out _ _ (fun o => B.out.cell o) (fun hHeld9 => ?_)
                clear hKQ KQ hHeld
                have hHeld := hHeld9
                clear hHeld9
                try simp only [Act.put, List.setIfInBounds_toArray, List.set_cons_zero, List.set_cons_succ]
                refine wpAnyH_take (i := 13) (oi := ⟨some 33, _, _, _, _, _⟩) (v := ?vr2_30) rfl (by kernel_rfl) (by kernel_rfl) (by kernel_rfl) (fun _ _ _ h => h) (Or.inl ⟨by kernel_rfl, ?hyr2_30⟩) (by assumption) ?restr2_30
                case hyr2_30 => (intro w99 hSw; (try dsimp only at hSw); (try go_simp); (try with_reducible rfl); (try omega))
                simp only [Act.put, List.setIfInBounds_toArray, List.set_cons_zero, List.set_cons_succ]
                refine wpAnyH_take (i := 14) (oi := ⟨some 34, _, _, _, _, _⟩) (v := ?vr2_31) rfl (by kernel_rfl) (by kernel_rfl) (by kernel_rfl) (fun _ _ _ h => h) (Or.inl ⟨by kernel_rfl, ?hyr2_31⟩) (by assumption) ?restr2_31
                case hyr2_31 => (intro w99 hSw; (try dsimp only at hSw); (try go_simp); (try with_reducible rfl); (try omega))
                simp only [Act.put, List.setIfInBounds_toArray, List.set_cons_zero, List.set_cons_succ]
                refine wpAnyH_take (i := 15) (oi := ⟨some 3, _, _, _, _, _⟩) (v := ?vr2_32) rfl (by kernel_rfl) (by kernel_rfl) (by kernel_rfl) (fun _ _ _ h => h) (Or.inl ⟨by kernel_rfl, ?hyr2_32⟩) (by assumption) ?restr2_32
                case hyr2_32 => (intro w99 hSw; (try dsimp only at hSw); (try go_simp); (try with_reducible rfl); (try omega))
                simp only [Act.put, List.setIfInBounds_toArray, List.set_cons_zero, List.set_cons_succ]
                refine wpAnyH_done (by kernel_rfl) ?_ _
                clear hHeld
                go_wp2
                go_roundg (m - (k + 1))
                case measure => omega
                case rel => exact ⟨k + 1, _, by omega, rfl, by go_num, rfl, Lib.hid HN.out, Lib.hid HZN.out, KW.out⟩
      · obtain rfl : k = m := by omega
        go_wp2
        go_ret
        exact ⟨by rw [← HALL.out, hS.out]; rfl, KW.out⟩
end
end Go.Proofs.YtgndijdhmkphaaaGreatDoor
