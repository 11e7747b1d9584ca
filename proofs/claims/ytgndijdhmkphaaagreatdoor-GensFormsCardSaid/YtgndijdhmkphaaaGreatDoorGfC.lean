/-
  Any text cut and read as an address: strings.Split, strings.Cut, tuple.ParseAddr. (GensForms)
-/
import Derived.Test.YtgndijdhmkphaaaGreatDoorGfB
namespace Go.Proofs.YtgndijdhmkphaaaGreatDoor
set_option linter.unusedVariables false
section
open Go.RowKit Go.ChangeShapes Go.WideShapes Go.ChangeAt Go.Deep
set_option maxRecDepth 100000
theorem map_data : ∀ {l m : List ByteArray}, l.map (·.data.toList) = m.map (·.data.toList) → l = m
  | [], [], _ => rfl
  | [], y :: m, e => by cases e
  | x :: l, [], e => by cases e
  | x :: l, y :: m, e => by
    rw [List.map_cons, List.map_cons, List.cons.injEq] at e
    have hx : x = y := by
      cases x; cases y
      exact congrArg ByteArray.mk (Array.toList_inj.1 e.1)
    rw [hx, map_data e.2]
theorem countB_pieces (c : UInt8) (s : List UInt8) : Lib.countB (strOf s) ⟨#[c]⟩ + 1 = (pieces c s).length := by
  show Lib.count (strOf s).data.toList [c] + 1 = _
  rw [strOf_list]; exact pieces_len c _ s rfl
theorem splitB_pieces (c : UInt8) (s : List UInt8) : Lib.splitB ⟨#[c]⟩ 0 (Lib.countB (strOf s) ⟨#[c]⟩) (strOf s) = (pieces c s).map strOf := by
  have h := Lib.splitB_data ⟨#[c]⟩ 0 (Lib.countB (strOf s) ⟨#[c]⟩) (strOf s)
  rw [show Lib.countB (strOf s) ⟨#[c]⟩ = Lib.count s [c] from by show Lib.count (strOf s).data.toList [c] = _; rw [strOf_list]] at h ⊢
  rw [strOf_list] at h
  refine map_data ?_
  rw [h, show (⟨#[c]⟩ : ByteArray).data.toList = [c] from rfl, split_pieces c _ s rfl]
  rw [List.map_map]
  exact (List.map_id' _).symm.trans (List.map_congr_left fun x _ => (strOf_list x).symm)
def strsV (l : List (List UInt8)) : Array Value := ((l.map strOf).map Value.string).toArray
theorem strsV_at {l : List (List UInt8)} {k : Nat} {x : List UInt8} (h : l[k]? = some x) : (strsV l)[k]? = some (.string (strOf x)) := by
  simp [strsV, h]
theorem Split_any (w : World) (c : UInt8) (s : List UInt8) (hl : s.length ≤ 100000) (E : Env w) :
    Calls Tryz.prog 24 #[.string (strOf s), .string ⟨#[c]⟩] w fun e w' => e = .returned (.slice (some ⟨w.heap.size, 0, none⟩) (pieces c s).length (pieces c s).length) ∧ Blk w' w.heap.size 9 (strsV (pieces c s)) ∧ Kept [] w w' := by
  obtain ⟨m, hm⟩ := E.ml
  refine (Tryz.strings_Split (strOf s) ⟨#[c]⟩ m w (by rw [strOf_size]; omega) hm (Nat.le_refl 1)).mono ?_
  rintro e w' ⟨rfl, rfl⟩
  rw [countB_pieces, splitB_pieces]
  exact ⟨rfl, Blk.new _ _ _, (Kept.refl [] w).alloc _⟩
theorem Cut_any (w : World) (c : UInt8) (s : List UInt8) (hl : s.length ≤ 100000) (E : Env w) :
    Calls Tryz.prog 25 #[.string (strOf s), .string ⟨#[c]⟩] w fun e w' => e = .returned (.tuple #[.string (strOf (Lib.cut s [c]).1), .string (strOf (Lib.cut s [c]).2.1), .bool (Lib.cut s [c]).2.2]) ∧ Kept [] w w' := by
  obtain ⟨m, hm⟩ := E.ml
  refine (Tryz.strings_Cut (strOf s) ⟨#[c]⟩ m w (by rw [strOf_size]; omega) hm).mono ?_
  rintro e w' ⟨rfl, n, rfl⟩
  refine ⟨?_, (Kept.refl [] w).drewN n⟩
  rw [strOf_list, show (⟨#[c]⟩ : ByteArray).data.toList = [c] from rfl]
  rfl
theorem byteO_upTo {x : List UInt8} : byteO x = (upTo x 255).map Int.toNat := by
  unfold byteO upTo
  cases canon x with
  | none => rfl
  | some n => dsimp only; split <;> rfl
theorem upTo_in {x : List UInt8} {most n : Int} (h : upTo x most = some n) : 0 ≤ n ∧ n ≤ most := by
  unfold upTo at h
  split at h
  · split at h
    · injection h with h; subst h; assumption
    · cases h
  · cases h
set_option maxHeartbeats 3200000 in
theorem ParseAddr_any (w : World) (s : List UInt8) (hl : s.length ≤ 100000) (E : Env w) :
    Calls Tryz.prog 27 #[.string (strOf s)] w fun e w' => e = .returned (.tuple #[.int .u32 (((addrO s).getD 0).toNat : Nat), .bool (addrO s).isSome]) ∧ Kept [] w w' := by
  have HE := Lib.hid E
  have HS := Lib.hid (Split_any w 46 s hl E)
  have HP := Lib.hid (fun p hp => Nat.le_trans (pieces_mem 46 _ s rfl p hp) hl)
  obtain ⟨P, hP⟩ : ∃ P, pieces 46 s = P := ⟨_, rfl⟩
  obtain ⟨R, hR⟩ : ∃ R, addrO s = R := ⟨_, rfl⟩
  have HR := Lib.hid (show R = if P.length = 4 then (accO P 0).map UInt32.ofNat else none from by rw [← hR, ← hP]; rfl)
  rw [hP] at HS HP
  rw [hR]
  obtain ⟨u, hu⟩ : ∃ u, strOf s = u := ⟨_, rfl⟩
  rw [hu] at HS ⊢
  obtain ⟨n, hn⟩ : ∃ n, P.length = n := ⟨_, rfl⟩
  rw [hn] at HS HR
  have HN := Lib.hid hn
  clear hP hR hu hn E hl
  by_cases h4 : n = 4
  · subst h4
    rw [if_pos rfl] at HR
    go_enter Tryz.func27, Tryz.ntmps27
    go_wp2_with (go_at_call 24
                 go_must (refine HS.out.mono ?_)
                 go_must (rintro e w1 ⟨rfl, hL, hK⟩)
                 go_must (have L := Lib.hid hL)
                 go_must (have K := Lib.hid hK)
                 go_must (clear hL hK))
    go_loopg [5, 17] (4 : Nat) (fun g v i wr => ∃ k x : Nat, k ≤ 4 ∧ g = 4 - k ∧ i = .int .i64 k ∧ v = .int .u32 (x : Nat) ∧ Hid (accO (P.take k) 0 = some x) ∧ Blk wr w.heap.size 9 (strsV P) ∧ Kept [] w wr)
    case atStart => exact ⟨0, 0, by omega, rfl, rfl, rfl, Lib.hid rfl, L.out, K.out⟩
    case round =>
      obtain ⟨k, x, hk, rfl, rfl, rfl, hA, hL, hK⟩ := hrel
      clear L K
      have L := Lib.hid hL
      have K := Lib.hid hK
      clear hL hK
      by_cases hlt : k < 4
      · have hkl : k < P.length := by rw [HN.out]; exact hlt
        obtain ⟨y, hy⟩ : ∃ y, P[k]? = some y := ⟨_, List.getElem?_eq_getElem hkl⟩
        have hc : wr.cell? ⟨w.heap.size, k, none⟩ = some (.string (strOf y)) := by rw [L.out.cell]; exact strsV_at hy
        have hyl := HP.out y (List.mem_of_getElem? hy)
        have HC := Lib.hid (tNumber_any wr y 255 hyl (HE.out.kept K.out))
        have HT := Lib.hid ((accO_take hy).trans (by rw [hA.out]))
        have hx : x < 16777216 := by
          have h1 := accO_lt hA.out
          rw [List.length_take] at h1
          have h2 : 256 ^ min k P.length ≤ 256 ^ 3 := Nat.pow_le_pow_right (by omega) (by omega)
          have h3 : (256 : Nat) ^ 3 = 16777216 := rfl
          omega
        have HB := Lib.hid (byteO_upTo (x := y))
        obtain ⟨d, hd⟩ : ∃ d, strOf y = d := ⟨_, rfl⟩
        rw [hd] at hc HC
        have i1 : (k : Int) < 4 := by omega
        cases hup : upTo y 255 with
        | none =>
          rw [hup] at HC HB
          have HRN := Lib.hid (show R = none from by
            have h1 := HT.out
            rw [HB.out] at h1
            rw [HR.out, accO_none (k := k + 1) h1]; rfl)
          clear hup hd hy hyl hkl hA HT HB
          go_wp2_with (go_at_call 50
                       go_must (refine HC.out.mono ?_)
                       go_must (rintro e w2 ⟨n2, rfl, -, k1⟩)
                       go_must (have K := Lib.hid (K.out.trans k1 (by simp)))
                       go_must (clear k1))
          go_ret2
          exact ⟨by rw [HRN.out]; rfl, K.out⟩
        | some b0 =>
          have hb0 := upTo_in hup
          obtain ⟨b, rfl⟩ : ∃ b : Nat, b0 = (b : Int) := ⟨b0.toNat, by omega⟩
          rw [hup] at HC HB
          have HX := Lib.hid (show accO (P.take (k + 1)) 0 = some (x * 256 + b) from by
            have h1 := HT.out
            rw [HB.out] at h1
            exact h1)
          have hb : b < 256 := by omega
          have HOR := Lib.hid (or32 x b hx hb)
          clear hup hd hy hyl hkl hA HT HB hb0
          go_wp2_with (go_at_call 50
                       go_must (refine HC.out.mono ?_)
                       go_must (rintro e w2 ⟨n2, rfl, hn2, k1⟩)
                       go_must (obtain rfl := hn2 _ rfl)
                       go_must (have L := Lib.hid (L.out.kept k1 (by simp)))
                       go_must (have K := Lib.hid (K.out.trans k1 (by simp)))
                       go_must (clear k1 hn2))
          go_roundg (4 - (k + 1))
          case measure => omega
          case rel => exact ⟨k + 1, x * 256 + b, by omega, rfl, by go_num, by rw [← HOR.out], Lib.hid HX.out, L.out, K.out⟩
      · obtain rfl : k = 4 := by omega
        have HRS := Lib.hid (show R = some (UInt32.ofNat x) ∧ (UInt32.ofNat x).toNat = x from by
          have h1 := hA.out
          rw [List.take_of_length_le (by rw [HN.out]; omega)] at h1
          have h2 := accO_lt h1
          rw [HN.out] at h2
          exact ⟨by rw [HR.out, h1]; rfl, by rw [UInt32.toNat_ofNat', Nat.mod_eq_of_lt (by omega)]⟩)
        clear hA
        go_wp2
        go_ret2
        exact ⟨by rw [HRS.out.1]; show _ = Ending.returned (.tuple #[.int .u32 ((UInt32.ofNat x).toNat : Nat), .bool true]); rw [HRS.out.2]; rfl, K.out⟩
  · have HRN := Lib.hid (show R = none from by rw [HR.out, if_neg h4])
    have i4 : ¬ (n : Int) = 4 := by omega
    clear h4
    go_enter Tryz.func27, Tryz.ntmps27
    go_wp2_with (go_at_call 24
                 go_must (refine HS.out.mono ?_)
                 go_must (rintro e w1 ⟨rfl, hL, hK⟩)
                 go_must (have K := Lib.hid hK)
                 go_must (clear hL hK))
    go_ret2
    exact ⟨by rw [HRN.out]; rfl, K.out⟩
end
end Go.Proofs.YtgndijdhmkphaaaGreatDoor
