
/-
  Both disks are alike; where a name stands.
-/
import Derived.Test.YthdjdfdefibepaaRkS
namespace Go.Proofs.Ythdjdfdefibepaa
open Go.RowKit Go.ChangeShapes Go.WideShapes Go.ChangeAt Go.Deep Go.MapKept
set_option linter.unusedVariables false

def IdxPost (w : World) (l : List Bs) (x : Bs) (e : Ending) (w' : World) : Prop := ∃ z : Int, e = .returned (.int .i64 z) ∧ (0 ≤ z ↔ x ∈ l) ∧ w' = w
set_option maxHeartbeats 1600000 in
theorem index_any (w : World) {A : Option Addr} {m c : Nat} {l : List Bs} (h : StrA w A m l) (hm : m ≤ 1000000) (x : Bs) : Calls Try.prog 31 #[.slice A m c, .string (strOf x)] w (IdxPost w l x) := by
  have H := Lib.hid h
  have L := Lib.hid h.1
  clear h
  go_enter Try.func31, Try.ntmps31
  go_wp2
  go_loopg [9] m (fun gg i wr => ∃ j : Nat, j ≤ m ∧ gg = m - j ∧ i = .int .i64 (j : Nat) ∧ (∀ y ∈ l.take j, y ≠ x) ∧ wr = w)
  case atStart => exact ⟨0, by omega, by omega, rfl, by simp, rfl⟩
  case round =>
    obtain ⟨j, hj, rfl, rfl, hs, rfl⟩ := hrel
    have HS := Lib.hid hs
    clear hs
    by_cases hlt : j < m
    · obtain ⟨y, hy⟩ : ∃ y, l[j]? = some y := ⟨_, List.getElem?_eq_getElem (by rw [L.out]; exact hlt)⟩
      obtain ⟨g, rfl, hg, hgc⟩ := H.out.2 j y hy
      have HY := Lib.hid hy
      have i0 : (0 : Int) ≤ (j : Int) := by omega
      have i1 : (j : Int) < (m : Int) := by omega
      have iw : IntKind.i64.wrap ((j : Int) + 1) = (j : Int) + 1 := IntWalk.i64_in _ (by omega)
      have tx := strOf_toList x
      have ty := strOf_toList y
      clear hy
      by_cases he : y = x
      · have hb : (y == x) = true := by simpa using he
        have HE := Lib.hid he
        clear he
        go_wp2
        go_ret
        exact ⟨(j : Nat), rfl, ⟨fun _ => by rw [← HE.out]; exact List.mem_of_getElem? HY.out, fun _ => by omega⟩, rfl⟩
      · have hb : (y == x) = false := by simpa using he
        have HE := Lib.hid he
        clear he
        go_wp2
        go_roundg (m - (j + 1))
        case measure => omega
        case rel => exact ⟨j + 1, by omega, rfl, by go_num, fun y' hy' => by
          rw [List.take_add_one, HY.out] at hy'
          rcases List.mem_append.1 hy' with h1 | h1
          · exact HS.out y' h1
          · simp at h1; subst h1; exact HE.out, rfl⟩
    · obtain rfl : j = m := by omega
      have i1 : ¬ (j : Int) < (j : Int) := by omega
      go_wp2
      go_ret
      refine ⟨-1, rfl, ⟨fun h => absurd h (by omega), fun h => ?_⟩, rfl⟩
      have h1 := HS.out
      rw [List.take_of_length_le (by rw [L.out]; exact Nat.le_refl _)] at h1
      exact absurd rfl (h1 x h)
theorem Sim.mem {σ : Nat → Nat} {D : DkD} {M : RkD} (h : Sim σ D M) (x : Bs) : (reaD D x).isSome = true ↔ x ∈ namM M := by
  rw [h.read]
  unfold namM
  constructor
  · intro h1
    unfold reaM at h1
    cases hg : getM M.now x with
    | none => rw [hg] at h1; simp at h1
    | some i => exact List.mem_map.2 ⟨_, getM_mem hg, rfl⟩
  · intro h1
    obtain ⟨q, hq, e⟩ := List.mem_map.1 h1
    have hg := getM_of_mem h.srt1.nodup (x := q.1) (v := q.2) hq
    rw [e] at hg
    obtain ⟨_, f, hf, _⟩ := h.get hg
    unfold reaM
    rw [hg]
    simp [hf]
set_option maxHeartbeats 6400000 in
theorem like_any {w : World} {G H : List Nat} {p p2 : Nat} {D : DkD} {M : RkD} (h : Duo w G p D p2 H M) (iv : InvD D) (rm : RM D M) (ho : D.ops ≤ 399) :
    Calls Try.prog 30 #[.pointer (some ⟨p, 0, none⟩), .pointer (some ⟨p2, 0, none⟩)] w fun e w' => e = .returned (.bool true) ∧ Kept [] w w' := by
  obtain ⟨σ, sim⟩ := rm
  have okm := sim.ok iv (by omega)
  have OKM := Lib.hid okm
  have SIM := Lib.hid sim
  have IV := Lib.hid iv
  obtain ⟨fb, bn, bs, A, m, c, xd⟩ := h.d
  obtain ⟨vs, A1, c1, A2, c2, A3, c3, A4, c4, xm⟩ := h.m
  have XD := Lib.hid xd
  have XM := Lib.hid xm
  obtain ⟨sz, hsz⟩ : ∃ sz, sizM M = sz := ⟨_, rfl⟩
  have SZ := Lib.hid hsz
  have SD := Lib.hid (show sizeD D = sz by rw [sim.size iv, hsz])
  obtain ⟨l, hl⟩ : ∃ l, namM M = l := ⟨_, rfl⟩
  have NL := Lib.hid hl
  have ND := Lib.hid (show namesD D = l by rw [sim.names iv, hl])
  have LL := Lib.hid (show l.length ≤ 400 by rw [← hl]; unfold namM; rw [List.length_map]; exact okm.nl.1)
  have NN := Lib.hid (show D.now.length ≤ 1000000 by have := iv.ok.nl.1; omega)
  have BM := Lib.hid (show Blk w p2 87 #[.slice A1 M.files.length c1, .slice A2 M.now.length c2, .slice A3 M.sur.length c3, .slice A4 M.ch.length c4, .int .i64 D.quota, .int .i64 D.ops, .int .i64 M.fail] from by rw [← sim.quota, ← sim.n]; exact xm.blk)
  have MEM := Lib.hid (fun x (hx : x ∈ l) => (sim.mem x).2 (by rw [hl]; exact hx))
  have hx0 := BM.out.cell
  clear h iv sim okm xd xm hsz hl
  go_enter Try.func30, Try.ntmps30
  go_upto_region 1 with fail
  refine wp_region_held_drew (S := (fun w' => ∀ j, w'.cell? ⟨p2, j, none⟩ = (#[.slice A1 M.files.length c1, .slice A2 M.now.length c2, .slice A3 M.sur.length c3, .slice A4 M.ch.length c4, .int .i64 D.quota, .int .i64 D.ops, .int .i64 M.fail] : Array Value)[j]?)) (by kernel_rfl) (fun j => hx0 j) (fun hHeld => ?_)
  refine wpAnyH_take (i := 0) (oi := ⟨some 11, _, _, _, _, _⟩) (v := ?vh1_1) rfl (by kernel_rfl) (by kernel_rfl) (by kernel_rfl) (fun _ _ _ h => h) (Or.inl ⟨by kernel_rfl, ?hyh1_1⟩) (by assumption) ?resth1_1
  case hyh1_1 => (intro w99 hSw; (try dsimp only at hSw); (try go_simp); (try with_reducible rfl); (try omega))
  simp only [Act.put, List.setIfInBounds_toArray, List.set_cons_zero, List.set_cons_succ]
  refine wpAnyH_take (i := 2) (oi := ⟨some 13, _, _, _, _, _⟩) (v := ?vh1_2) rfl (by kernel_rfl) (by kernel_rfl) (by kernel_rfl) (fun _ _ _ h => h) (Or.inl ⟨by kernel_rfl, ?hyh1_2⟩) (by assumption) ?resth1_2
  case hyh1_2 => (intro w99 hSw; (try dsimp only at hSw); (try go_simp); (try with_reducible rfl); (try omega))
  simp only [Act.put, List.setIfInBounds_toArray, List.set_cons_zero, List.set_cons_succ]
  refine wpAnyH_ready (rs := [1]) (by kernel_rfl) (by simp) ?_
  refine AllReadyH.cons (o := ⟨some 12, _, _, _, _, _⟩) rfl (fun KQ hKQ => ?w1h1_3) AllReadyH.nil
  case w1h1_3 =>
    go_simp
    go_at_call 15
    have hz := Names_any (XD.out.go ((Kept.refl [] w).drew)) NN.out
    with_reducible refine hz.mono ?_
    clear hz
    rintro e w1 ⟨v, rfl, hs⟩
    obtain ⟨B1, d1, rfl, ha⟩ := hs.arr
    have K1 := Lib.hid (Kept.trans ((Kept.refl [] w).drew) hs.1 (by simp))
    rw [ND.out] at ha ⊢
    have SA1 := Lib.hid ha
    clear hs ha
    go_wp2_with fail
    refine hKQ.out _ _ (fun j => (BM.out.kept K1.out (by simp)).cell j) (fun hHeld9 => ?_)
    clear hKQ KQ hHeld
    have hHeld := hHeld9
    clear hHeld9
    try simp only [Act.put, List.setIfInBounds_toArray, List.set_cons_zero, List.set_cons_succ]
    refine wpAnyH_ready (rs := [3]) (by kernel_rfl) (by simp) ?_
    refine AllReadyH.cons (o := ⟨some 14, _, _, _, _, _⟩) rfl (fun KQ hKQ => ?w3h1_4) AllReadyH.nil
    case w3h1_4 =>
      go_simp
      go_at_call 32
      have hz := rNames_any (XM.out.go K1.out) (by have := OKM.out.nl; omega)
      rw [NL.out] at hz
      with_reducible refine hz.mono ?_
      clear hz
      rintro e w2 ⟨B2, m2, d2, rfl, hs⟩
      have K2 := Lib.hid (K1.out.trans (LV.kept hs) (by simp))
      have SA2 := Lib.hid (SrV.arr hs)
      have SB1 := Lib.hid (SA1.out.kept (LV.kept hs))
      clear hs
      go_wp2_with fail
      refine hKQ.out _ _ (fun j => (BM.out.kept K2.out (by simp)).cell j) (fun hHeld9 => ?_)
      clear hKQ KQ hHeld
      have hHeld := hHeld9
      clear hHeld9
      try simp only [Act.put, List.setIfInBounds_toArray, List.set_cons_zero, List.set_cons_succ]
      refine wpAnyH_ready (rs := [4]) (by kernel_rfl) (by simp) ?_
      refine AllReadyH.cons (o := ⟨some 15, _, _, _, _, _⟩) rfl (fun KQ hKQ => ?w4h1_5) AllReadyH.nil
      case w4h1_5 =>
        go_simp
        go_at_call 18
        have hz := SameNames_any w2 (c := d1) (d := d2) SB1.out SA2.out (by have := LL.out; omega)
        with_reducible refine hz.mono ?_
        clear hz
        rintro e w3 ⟨r, rfl, hr, hk⟩
        obtain rfl : r = true := hr.2 rfl
        have K3 := Lib.hid (K2.out.trans hk (by simp))
        clear hr hk
        go_wp2_with fail
        refine hKQ.out _ _ (fun j => (BM.out.kept K3.out (by simp)).cell j) (fun hHeld9 => ?_)
        clear hKQ KQ hHeld
        have hHeld := hHeld9
        clear hHeld9
        try simp only [Act.put, List.setIfInBounds_toArray, List.set_cons_zero, List.set_cons_succ]
        refine wpAnyH_take (i := 5) (oi := ⟨some 16, _, _, _, _, _⟩) (v := .bool false) rfl (by kernel_rfl) (by kernel_rfl) (by kernel_rfl) (fun _ _ _ h => h) (Or.inl ⟨by kernel_rfl, ?hyh1_6⟩) (by assumption) ?resth1_6
        case hyh1_6 => (intro w99 hSw; (try dsimp only at hSw); (try go_simp); (try with_reducible rfl); (try omega))
        simp only [Act.put, List.setIfInBounds_toArray, List.set_cons_zero, List.set_cons_succ]
        refine wpAnyH_take (i := 6) (oi := ⟨some 17, _, _, _, _, _⟩) (v := .bool false) rfl (by kernel_rfl) (by kernel_rfl) (by kernel_rfl) (fun _ _ _ h => h) (Or.inl ⟨by kernel_rfl, ?hyh1_7⟩) (by assumption) ?resth1_7
        case hyh1_7 => (intro w99 hSw; (try dsimp only at hSw); (try go_simp); (try with_reducible rfl); (try omega))
        simp only [Act.put, List.setIfInBounds_toArray, List.set_cons_zero, List.set_cons_succ]
        refine wpAnyH_take (i := 7) (oi := ⟨some 18, _, _, _, _, _⟩) (v := ?vh1_8) rfl (by kernel_rfl) (by kernel_rfl) (by kernel_rfl) (fun _ _ _ h => h) (Or.inl ⟨by kernel_rfl, ?hyh1_8⟩) (by assumption) ?resth1_8
        case hyh1_8 => (intro w99 hSw; (try dsimp only at hSw); (try go_simp); (try with_reducible rfl); (try omega))
        simp only [Act.put, List.setIfInBounds_toArray, List.set_cons_zero, List.set_cons_succ]
        refine wpAnyH_take (i := 9) (oi := ⟨some 20, _, _, _, _, _⟩) (v := ?vh1_9) rfl (by kernel_rfl) (by kernel_rfl) (by kernel_rfl) (fun _ _ _ h => h) (Or.inl ⟨by kernel_rfl, ?hyh1_9⟩) (by assumption) ?resth1_9
        case hyh1_9 => (intro w99 hSw; (try dsimp only at hSw); (try go_simp); (try with_reducible rfl); (try omega))
        simp only [Act.put, List.setIfInBounds_toArray, List.set_cons_zero, List.set_cons_succ]
        refine wpAnyH_ready (rs := [8]) (by kernel_rfl) (by simp) ?_
        refine AllReadyH.cons (o := ⟨some 19, _, _, _, _, _⟩) rfl (fun KQ hKQ => ?w8h1_10) AllReadyH.nil
        case w8h1_10 =>
          go_simp
          go_at_call 16
          have hz := Size_any (XD.out.go K3.out) IV.out.ok NN.out
          rw [SD.out] at hz
          with_reducible refine hz.mono ?_
          clear hz
          rintro e w4 ⟨rfl, hk⟩
          have K4 := Lib.hid (K3.out.trans hk (by simp))
          clear hk
          go_wp2_with fail
          refine hKQ.out _ _ (fun j => (BM.out.kept K4.out (by simp)).cell j) (fun hHeld9 => ?_)
          clear hKQ KQ hHeld
          have hHeld := hHeld9
          clear hHeld9
          try simp only [Act.put, List.setIfInBounds_toArray, List.set_cons_zero, List.set_cons_succ]
          refine wpAnyH_ready (rs := [10]) (by kernel_rfl) (by simp) ?_
          refine AllReadyH.cons (o := ⟨some 21, _, _, _, _, _⟩) rfl (fun KQ hKQ => ?w10h1_11) AllReadyH.nil
          case w10h1_11 =>
            go_simp
            go_at_call 55
            have hz := rSize_any (XM.out.go K4.out) OKM.out.now (fun f hf => (OKM.out.sure f hf).2) (by have := OKM.out.nl; omega)
            rw [SZ.out] at hz
            with_reducible refine hz.mono ?_
            clear hz
            rintro e w5 ⟨rfl, hk⟩
            have K5 := Lib.hid (K4.out.trans hk (by simp))
            clear hk
            go_wp2_with fail
            refine hKQ.out _ _ (fun j => (BM.out.kept K5.out (by simp)).cell j) (fun hHeld9 => ?_)
            clear hKQ KQ hHeld
            have hHeld := hHeld9
            clear hHeld9
            try simp only [Act.put, List.setIfInBounds_toArray, List.set_cons_zero, List.set_cons_succ]
            refine wpAnyH_take (i := 11) (oi := ⟨some 22, _, _, _, _, _⟩) (v := .bool false) rfl (by kernel_rfl) (by kernel_rfl) (by kernel_rfl) (fun _ _ _ h => h) (Or.inl ⟨by kernel_rfl, ?hyh1_12⟩) (by assumption) ?resth1_12
            case hyh1_12 => (intro w99 hSw; (try dsimp only at hSw); (try go_simp); (try with_reducible rfl); (try omega))
            simp only [Act.put, List.setIfInBounds_toArray, List.set_cons_zero, List.set_cons_succ]
            refine wpAnyH_take (i := 12) (oi := ⟨some 23, _, _, _, _, _⟩) (v := .bool false) rfl (by kernel_rfl) (by kernel_rfl) (by kernel_rfl) (fun _ _ _ h => h) (Or.inl ⟨by kernel_rfl, ?hyh1_13⟩) (by assumption) ?resth1_13
            case hyh1_13 => (intro w99 hSw; (try dsimp only at hSw); (try go_simp); (try with_reducible rfl); (try omega))
            simp only [Act.put, List.setIfInBounds_toArray, List.set_cons_zero, List.set_cons_succ]
            refine wpAnyH_take (i := 13) (oi := ⟨some 24, _, _, _, _, _⟩) (v := .bool false) rfl (by kernel_rfl) (by kernel_rfl) (by kernel_rfl) (fun _ _ _ h => h) (Or.inl ⟨by kernel_rfl, ?hyh1_14⟩) (by assumption) ?resth1_14
            case hyh1_14 => (intro w99 hSw; (try dsimp only at hSw); (try go_simp); (try with_reducible rfl); (try omega))
            simp only [Act.put, List.setIfInBounds_toArray, List.set_cons_zero, List.set_cons_succ]
            refine wpAnyH_take (i := 14) (oi := ⟨some 25, _, _, _, _, _⟩) (v := ?vh1_15) rfl (by kernel_rfl) (by kernel_rfl) (by kernel_rfl) (fun _ _ _ h => h) (Or.inl ⟨by kernel_rfl, ?hyh1_15⟩) (by assumption) ?resth1_15
            case hyh1_15 => (intro w99 hSw; (try dsimp only at hSw); (try go_simp); (try with_reducible rfl); (try omega))
            simp only [Act.put, List.setIfInBounds_toArray, List.set_cons_zero, List.set_cons_succ]
            refine wpAnyH_take (i := 16) (oi := ⟨some 27, _, _, _, _, _⟩) (v := ?vh1_16) rfl (by kernel_rfl) (by kernel_rfl) (by kernel_rfl) (fun _ _ _ h => h) (Or.inl ⟨by kernel_rfl, ?hyh1_16⟩) (by assumption) ?resth1_16
            case hyh1_16 => (intro w99 hSw; (try dsimp only at hSw); (try go_simp); (try with_reducible rfl); (try omega))
            simp only [Act.put, List.setIfInBounds_toArray, List.set_cons_zero, List.set_cons_succ]
            refine wpAnyH_take (i := 17) (oi := ⟨some 28, _, _, _, _, _⟩) (v := ?vh1_17) rfl (by kernel_rfl) (by kernel_rfl) (by kernel_rfl) (fun _ _ _ h => h) (Or.inl ⟨by kernel_rfl, ?hyh1_17⟩) (by assumption) ?resth1_17
            case hyh1_17 => (intro w99 hSw; (try dsimp only at hSw); (try go_simp); (try with_reducible rfl); (try omega))
            simp only [Act.put, List.setIfInBounds_toArray, List.set_cons_zero, List.set_cons_succ]
            refine wpAnyH_take (i := 18) (oi := ⟨some 29, _, _, _, _, _⟩) (v := ?vh1_18) rfl (by kernel_rfl) (by kernel_rfl) (by kernel_rfl) (fun _ _ _ h => h) (Or.inl ⟨by kernel_rfl, ?hyh1_18⟩) (by assumption) ?resth1_18
            case hyh1_18 => (intro w99 hSw; (try dsimp only at hSw); (try go_simp); (try with_reducible rfl); (try omega))
            simp only [Act.put, List.setIfInBounds_toArray, List.set_cons_zero, List.set_cons_succ]
            refine wpAnyH_take (i := 19) (oi := ⟨some 30, _, _, _, _, _⟩) (v := ?vh1_19) rfl (by kernel_rfl) (by kernel_rfl) (by kernel_rfl) (fun _ _ _ h => h) (Or.inl ⟨by kernel_rfl, ?hyh1_19⟩) (by assumption) ?resth1_19
            case hyh1_19 => (intro w99 hSw; (try dsimp only at hSw); (try go_simp); (try with_reducible rfl); (try omega))
            simp only [Act.put, List.setIfInBounds_toArray, List.set_cons_zero, List.set_cons_succ]
            refine wpAnyH_ready (rs := [15]) (by kernel_rfl) (by simp) ?_
            refine AllReadyH.cons (o := ⟨some 26, _, _, _, _, _⟩) rfl (fun KQ hKQ => ?w15h1_20) AllReadyH.nil
            case w15h1_20 =>
              go_simp
              go_at_call 20
              have hz := Ops_any (XD.out.go K5.out)
              with_reducible refine hz.mono ?_
              clear hz
              rintro e w6 ⟨rfl, rfl⟩
              go_wp2_with fail
              refine hKQ.out _ _ (fun j => (BM.out.kept K5.out (by simp)).cell j) (fun hHeld9 => ?_)
              clear hKQ KQ hHeld
              have hHeld := hHeld9
              clear hHeld9
              try simp only [Act.put, List.setIfInBounds_toArray, List.set_cons_zero, List.set_cons_succ]
              refine wpAnyH_take (i := 20) (oi := ⟨some 31, _, _, _, _, _⟩) (v := .bool false) rfl (by kernel_rfl) (by kernel_rfl) (by kernel_rfl) (fun _ _ _ h => h) (Or.inl ⟨by kernel_rfl, ?hyh1_21⟩) (by assumption) ?resth1_21
              case hyh1_21 => (intro w99 hSw; (try dsimp only at hSw); (try go_simp); (try with_reducible rfl); (try omega))
              simp only [Act.put, List.setIfInBounds_toArray, List.set_cons_zero, List.set_cons_succ]
              refine wpAnyH_take (i := 21) (oi := ⟨some 32, _, _, _, _, _⟩) (v := .bool false) rfl (by kernel_rfl) (by kernel_rfl) (by kernel_rfl) (fun _ _ _ h => h) (Or.inl ⟨by kernel_rfl, ?hyh1_22⟩) (by assumption) ?resth1_22
              case hyh1_22 => (intro w99 hSw; (try dsimp only at hSw); (try go_simp); (try with_reducible rfl); (try omega))
              simp only [Act.put, List.setIfInBounds_toArray, List.set_cons_zero, List.set_cons_succ]
              refine wpAnyH_take (i := 22) (oi := ⟨some 33, _, _, _, _, _⟩) (v := .bool false) rfl (by kernel_rfl) (by kernel_rfl) (by kernel_rfl) (fun _ _ _ h => h) (Or.inl ⟨by kernel_rfl, ?hyh1_23⟩) (by assumption) ?resth1_23
              case hyh1_23 => (intro w99 hSw; (try dsimp only at hSw); (try go_simp); (try with_reducible rfl); (try omega))
              simp only [Act.put, List.setIfInBounds_toArray, List.set_cons_zero, List.set_cons_succ]
              refine wpAnyH_take (i := 23) (oi := ⟨some 34, _, _, _, _, _⟩) (v := ?vh1_24) rfl (by kernel_rfl) (by kernel_rfl) (by kernel_rfl) (fun _ _ _ h => h) (Or.inl ⟨by kernel_rfl, ?hyh1_24⟩) (by assumption) ?resth1_24
              case hyh1_24 => (intro w99 hSw; (try dsimp only at hSw); (try go_simp); (try with_reducible rfl); (try omega))
              simp only [Act.put, List.setIfInBounds_toArray, List.set_cons_zero, List.set_cons_succ]
              refine wpAnyH_take (i := 25) (oi := ⟨some 36, _, _, _, _, _⟩) (v := ?vh1_25) rfl (by kernel_rfl) (by kernel_rfl) (by kernel_rfl) (fun _ _ _ h => h) (Or.inl ⟨by kernel_rfl, ?hyh1_25⟩) (by assumption) ?resth1_25
              case hyh1_25 => (intro w99 hSw; (try dsimp only at hSw); (try go_simp); (try with_reducible rfl); (try omega))
              simp only [Act.put, List.setIfInBounds_toArray, List.set_cons_zero, List.set_cons_succ]
              refine wpAnyH_take (i := 26) (oi := ⟨some 37, _, _, _, _, _⟩) (v := ?vh1_26) rfl (by kernel_rfl) (by kernel_rfl) (by kernel_rfl) (fun _ _ _ h => h) (Or.inl ⟨by kernel_rfl, ?hyh1_26⟩) (by assumption) ?resth1_26
              case hyh1_26 => (intro w99 hSw; (try dsimp only at hSw); (try go_simp); (try with_reducible rfl); (try omega))
              simp only [Act.put, List.setIfInBounds_toArray, List.set_cons_zero, List.set_cons_succ]
              refine wpAnyH_take (i := 27) (oi := ⟨some 38, _, _, _, _, _⟩) (v := ?vh1_27) rfl (by kernel_rfl) (by kernel_rfl) (by kernel_rfl) (fun _ _ _ h => h) (Or.inl ⟨by kernel_rfl, ?hyh1_27⟩) (by assumption) ?resth1_27
              case hyh1_27 => (intro w99 hSw; (try dsimp only at hSw); (try go_simp); (try with_reducible rfl); (try omega))
              simp only [Act.put, List.setIfInBounds_toArray, List.set_cons_zero, List.set_cons_succ]
              refine wpAnyH_take (i := 28) (oi := ⟨some 39, _, _, _, _, _⟩) (v := ?vh1_28) rfl (by kernel_rfl) (by kernel_rfl) (by kernel_rfl) (fun _ _ _ h => h) (Or.inl ⟨by kernel_rfl, ?hyh1_28⟩) (by assumption) ?resth1_28
              case hyh1_28 => (intro w99 hSw; (try dsimp only at hSw); (try go_simp); (try with_reducible rfl); (try omega))
              simp only [Act.put, List.setIfInBounds_toArray, List.set_cons_zero, List.set_cons_succ]
              refine wpAnyH_ready (rs := [24]) (by kernel_rfl) (by simp) ?_
              refine AllReadyH.cons (o := ⟨some 35, _, _, _, _, _⟩) rfl (fun KQ hKQ => ?w24h1_29) AllReadyH.nil
              case w24h1_29 =>
                go_simp
                go_at_call 34
                have hz := Quota_any (XD.out.go K5.out)
                with_reducible refine hz.mono ?_
                clear hz
                rintro e w7 ⟨rfl, rfl⟩
                go_wp2_with fail
                refine hKQ.out _ _ (fun j => (BM.out.kept K5.out (by simp)).cell j) (fun hHeld9 => ?_)
                clear hKQ KQ hHeld
                have hHeld := hHeld9
                clear hHeld9
                try simp only [Act.put, List.setIfInBounds_toArray, List.set_cons_zero, List.set_cons_succ]
                refine wpAnyH_take (i := 29) (oi := ⟨some 40, _, _, _, _, _⟩) (v := .bool false) rfl (by kernel_rfl) (by kernel_rfl) (by kernel_rfl) (fun _ _ _ h => h) (Or.inl ⟨by kernel_rfl, ?hyh1_30⟩) (by assumption) ?resth1_30
                case hyh1_30 => (intro w99 hSw; (try dsimp only at hSw); (try go_simp); (try with_reducible rfl); (try omega))
                simp only [Act.put, List.setIfInBounds_toArray, List.set_cons_zero, List.set_cons_succ]
                refine wpAnyH_take (i := 30) (oi := ⟨some 41, _, _, _, _, _⟩) (v := .bool false) rfl (by kernel_rfl) (by kernel_rfl) (by kernel_rfl) (fun _ _ _ h => h) (Or.inl ⟨by kernel_rfl, ?hyh1_31⟩) (by assumption) ?resth1_31
                case hyh1_31 => (intro w99 hSw; (try dsimp only at hSw); (try go_simp); (try with_reducible rfl); (try omega))
                simp only [Act.put, List.setIfInBounds_toArray, List.set_cons_zero, List.set_cons_succ]
                refine wpAnyH_done (by kernel_rfl) ?_ _
                clear hHeld
                have KX := Lib.hid K5.out
                clear hx0
                go_wp2_with (first
                  | (go_at_call 32
                     have hz := rNames_any (XM.out.go K5.out) (by have := OKM.out.nl; omega)
                     rw [NL.out] at hz
                     with_reducible refine hz.mono ?_
                     clear hz
                     rintro e w8 ⟨B8, m8, d8, rfl, hs⟩
                     have K8 := Lib.hid (K5.out.trans (LV.kept hs) (by simp))
                     have SA8 := Lib.hid (SrV.arr hs)
                     have m8l := (SrV.arr hs).1
                     clear hs))
                have m8b := LL.out
                rw [m8l] at m8b
                have ML8 := Lib.hid m8l
                clear m8l
                go_loopg [45] m8 (fun gg i wr => ∃ j : Nat, j ≤ m8 ∧ gg = m8 - j ∧ i = .int .i64 (j : Nat) ∧ Kept [] w wr ∧ Kept [] w8 wr)
                case atStart => exact ⟨0, by omega, by omega, rfl, K8.out, Kept.refl _ _⟩
                case round =>
                  obtain ⟨j, hj, rfl, rfl, hk, hk8⟩ := hrel
                  have KW := Lib.hid hk
                  have K8W := Lib.hid hk8
                  clear hk hk8
                  by_cases hlt : j < m8
                  · obtain ⟨x, hx⟩ : ∃ x, l[j]? = some x := ⟨_, List.getElem?_eq_getElem (by rw [ML8.out]; exact hlt)⟩
                    obtain ⟨g, rfl, hg, hgc⟩ := (SA8.out.kept K8W.out).2 j x hx
                    have hmem := MEM.out x (List.mem_of_getElem? hx)
                    obtain ⟨b, hb⟩ := Option.isSome_iff_exists.1 hmem
                    have HBD := Lib.hid hb
                    have HBM := Lib.hid (show reaM M x = some b by rw [← SIM.out.read]; exact hb)
                    have i0 : (0 : Int) ≤ (j : Int) := by omega
                    have i1 : (j : Int) < (m8 : Int) := by omega
                    have iw : IntKind.i64.wrap ((j : Int) + 1) = (j : Int) + 1 := IntWalk.i64_in _ (by omega)
                    clear hx hmem hb
                    go_upto_region 8 with (first
                      | (go_at_call 25
                         have hz := Read_any (XD.out.go KW.out) IV.out.ok x
                         refine hz.mono ?_
                         clear hz
                         rintro e w9 ⟨hk9, hh⟩
                         obtain ⟨b', A9, m9, c9, hb', rfl, hN⟩ : ∃ b' A2 m2 c2, reaD D x = some b' ∧ e = .returned (.tuple #[.slice A2 m2 c2, .bool true]) ∧ New wr 5 1 (.slice A2 m2 c2) b'.length (u8s b') w9 := by
                           rcases hh with ⟨h1, _⟩ | h1
                           · rw [HBD.out] at h1; cases h1
                           · exact h1
                         obtain rfl : b = b' := by rw [HBD.out] at hb'; injection hb'
                         have K9 := Lib.hid hk9
                         have R9 := Lib.hid (RdB.of_own hN.1)
                         clear hk9 hh hb' hN hgc)
                      | (go_at_call 56
                         have hz := rRead_any (XM.out.go (KW.out.trans K9.out (by simp))) OKM.out x
                         refine hz.mono ?_
                         clear hz
                         rintro e w10 ⟨hk10, hh⟩
                         obtain ⟨b', A10, m10, c10, hb', rfl, hN⟩ : ∃ b A m c, reaM M x = some b ∧ e = .returned (.tuple #[.slice A m c, .bool true]) ∧ BtV w9 w10 (.slice A m c) b := by
                           rcases hh with ⟨h1, _⟩ | h1
                           · rw [HBM.out] at h1; cases h1
                           · exact h1
                         obtain rfl : b = b' := by rw [HBM.out] at hb'; injection hb'
                         have K10 := Lib.hid hk10
                         have R10 := Lib.hid hN.rd
                         have RA := Lib.hid (R9.out.kept hk10 (by simp))
                         clear hk10 hh hb' hN))
                    have q1 := run_str RA.out
                    have q2 := run_str R10.out
                    have tz := strOf_toList b
                    go_wp2
                    go_roundg (m8 - (j + 1))
                    case measure => omega
                    case rel => exact ⟨j + 1, by omega, rfl, by go_num, KW.out.trans (K9.out.trans K10.out (by simp)) (by simp), K8W.out.trans (K9.out.trans K10.out (by simp)) (by simp)⟩
                  · obtain rfl : j = m8 := by omega
                    have i1 : ¬ (j : Int) < (j : Int) := by omega
                    go_wp2
                    go_ret
                    exact ⟨rfl, KW.out⟩
end Go.Proofs.Ythdjdfdefibepaa
