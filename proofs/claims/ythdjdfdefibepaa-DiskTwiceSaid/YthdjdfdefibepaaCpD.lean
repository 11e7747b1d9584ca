
/-
  A disk copied: the walk.
-/
import Derived.Test.YthdjdfdefibepaaCpC
import Derived.Laws.EntriesVeiled
namespace Go.Proofs.Ythdjdfdefibepaa
open Go.RowKit Go.ChangeShapes Go.WideShapes Go.ChangeAt Go.Deep Go.MapKept
set_option linter.unusedVariables false

theorem cp_start {w w1 w5 : World} {vb tb nb sb po : Nat} {fb : List Nat} {D : DkD} (h1 : Kept [] w w1) (h2 : Kept [] w1 w5) (hv : Blk w1 vb 90 #[.map (some tb)]) (ht : MapB ekP evP w1 tb ([] : List (Option Nat × Nat)))
    (hb : Blk w5 po 64 #[.int .i64 D.quota, .map (some nb), .map (some sb), .slice none 0 0, .int .i64 D.ops, .int .i64 D.fail]) (hn : MapB ekS (evF []) w5 nb ([] : List (Bs × Nat))) (hs : MapB ekS (evF []) w5 sb ([] : List (Bs × Nat))) (hne : nb ≠ sb)
    (g1 : w1.heap.size ≤ nb) (g2 : w1.heap.size ≤ sb) (g3 : w1.heap.size ≤ po) (g4 : w.heap.size ≤ vb) (g5 : w.heap.size ≤ tb) :
    CpI w w5 vb tb po fb D ⟨[], [], [], [], D.quota, D.ops, D.fail⟩ [] [] nb sb none 0 0 [nb, sb, po] [] := by
  have hvl := hv.lt
  have htl := ht.lt
  have hs1 := h1.size
  refine ⟨⟨hb, hn, hs, hne, Own.nil _ _ _, ⟨rfl, by simp, by simp, [], rfl, by simp, by simp, by simp⟩, by simp, by simp, by simp, by simp [rowOf, Value.ownBlock], fun k hk => ?_⟩, h1.trans h2 (by simp), fun k hk => ?_, ⟨hv.kept h2 (by simp), ht.kept h2 (by simp), by simp⟩, ⟨g4, g5⟩, by simp, fun i hi _ => rfl, by simp, by simp, by simp, rfl, by simp, by simp, by simp, by simp, ⟨rfl, rfl, rfl⟩⟩
  · simp at hk
    rcases hk with rfl | rfl | rfl
    · exact hn.lt
    · exact hs.lt
    · exact hb.lt
  · simp at hk
    rcases hk with rfl | rfl | rfl <;> exact ⟨by omega, by omega, by omega⟩
set_option maxRecDepth 100000 in
set_option maxHeartbeats 25600000 in
theorem Copy_any {w : World} {G : List Nat} {p : Nat} {fb : List Nat} {D : DkD} {bn bs : Nat} {A : Option Addr} {m c : Nat} (h : DkX w G p fb D bn bs A m c) (iv : InvD D) (ho : D.ops ≤ 10000) :
    Calls Try.prog 33 #[.pointer (some ⟨p, 0, none⟩)] w (CopyPost w D) := by
  obtain ⟨Ax, cx, hv, hcx, hcm⟩ := h.row.form
  injection hv with e1 e2 e3
  subst e1 e2 e3
  unfold maxLen at hcm
  have XD := Lib.hid h
  have IV := Lib.hid iv
  have hc0 := h.blk.cell
  have hp0 := h.blk.lt
  have HFB := Lib.hid (show ∀ i, i < D.files.length → fbA fb i < w.heap.size from fun i hi => h.lt _ (fbA_inG h.fs hi))
  have BNL := Lib.hid (show bn < w.heap.size ∧ bs < w.heap.size from ⟨h.lt _ h.inn, h.lt _ h.ins⟩)
  have CHL := Lib.hid (show D.ch.length ≤ 10000 by have := iv.ok.nl; omega)
  have hmm := @run_makeMap Try.prog
  have hu := Try.underlying90
  have hu2 := Try.underlying61
  clear h iv
  go_enter Try.func33, Try.ntmps33
  go_upto_region 5 with fail
  obtain ⟨vb, hvb⟩ : ∃ vb, w.heap.size + 1 = vb := ⟨_, rfl⟩
  have V1 := Lib.hid (show Blk ((w.alloc (.map #[] 0)).alloc (.cells #[.map (some w.heap.size)] 90)) (w.heap.size + 1) 90 #[.map (some w.heap.size)] from Blk.new' _ (by simp) _ _)
  have T1 := Lib.hid (show MapB ekP evP ((w.alloc (.map #[] 0)).alloc (.cells #[.map (some w.heap.size)] 90)) w.heap.size ([] : List (Option Nat × Nat)) from (MapB.new w).alloc _)
  have K1 := Lib.hid (((Kept.refl [] w).alloc (.map #[] 0)).alloc (.cells #[.map (some w.heap.size)] 90))
  rw [hvb] at V1
  simp only [hvb]
  obtain ⟨tb, htb⟩ : ∃ tb, w.heap.size = tb := ⟨_, rfl⟩
  have VT := Lib.hid (show w.heap.size ≤ vb ∧ w.heap.size ≤ tb by omega)
  rw [htb] at V1 T1 K1
  simp only [htb]
  obtain ⟨w1, hw1⟩ : ∃ w1, (w.alloc (.map #[] 0)).alloc (.cells #[.map (some tb)] 90) = w1 := ⟨_, rfl⟩
  rw [hw1] at V1 T1 K1
  simp only [hw1]
  clear hvb htb hw1 hc0
  have hc1 := (XD.out.go K1.out).blk.cell
  refine wp_region_held_drew (S := (fun w' => ∀ i, w'.cell? ⟨p, i, none⟩ = (#[.int .i64 D.quota, .map (some bn), .map (some bs), .slice A D.ch.length c, .int .i64 D.ops, .int .i64 D.fail] : Array Value)[i]?)) (by kernel_rfl) (fun i => hc1 i) (fun hHeld => ?_)
  refine wpAnyH_take (i := 0) (oi := ⟨some 16, _, _, _, _, _⟩) (v := ?vh1_1) rfl (by kernel_rfl) (by kernel_rfl) (by kernel_rfl) (fun _ _ _ h => h) (Or.inl ⟨by kernel_rfl, ?hyh1_1⟩) (by assumption) ?resth1_1
  case hyh1_1 => (intro w99 hSw; (try dsimp only at hSw); (try go_simp); (try with_reducible rfl); (try omega))
  simp only [Act.put, List.setIfInBounds_toArray, List.set_cons_zero, List.set_cons_succ]
  refine wpAnyH_take (i := 1) (oi := ⟨some 17, _, _, _, _, _⟩) (v := ?vh1_2) rfl (by kernel_rfl) (by kernel_rfl) (by kernel_rfl) (fun _ _ _ h => h) (Or.inl ⟨by kernel_rfl, ?hyh1_2⟩) (by assumption) ?resth1_2
  case hyh1_2 => (intro w99 hSw; (try dsimp only at hSw); (try go_simp); (try with_reducible rfl); (try omega))
  simp only [Act.put, List.setIfInBounds_toArray, List.set_cons_zero, List.set_cons_succ]
  refine wpAnyH_take (i := 2) (oi := ⟨some 18, _, _, _, _, _⟩) (v := ?vh1_3) rfl (by kernel_rfl) (by kernel_rfl) (by kernel_rfl) (fun _ _ _ h => h) (Or.inl ⟨by kernel_rfl, ?hyh1_3⟩) (by assumption) ?resth1_3
  case hyh1_3 => (intro w99 hSw; (try dsimp only at hSw); (try go_simp); (try with_reducible rfl); (try omega))
  simp only [Act.put, List.setIfInBounds_toArray, List.set_cons_zero, List.set_cons_succ]
  refine wpAnyH_take (i := 3) (oi := ⟨some 19, _, _, _, _, _⟩) (v := ?vh1_4) rfl (by kernel_rfl) (by kernel_rfl) (by kernel_rfl) (fun _ _ _ h => h) (Or.inl ⟨by kernel_rfl, ?hyh1_4⟩) (by assumption) ?resth1_4
  case hyh1_4 => (intro w99 hSw; (try dsimp only at hSw); (try go_simp); (try with_reducible rfl); (try omega))
  simp only [Act.put, List.setIfInBounds_toArray, List.set_cons_zero, List.set_cons_succ]
  refine wpAnyH_take (i := 6) (oi := ⟨some 22, _, _, _, _, _⟩) (v := ?vh1_5) rfl (by kernel_rfl) (by kernel_rfl) (by kernel_rfl) (fun _ _ _ h => h) (Or.inl ⟨by kernel_rfl, ?hyh1_5⟩) (by assumption) ?resth1_5
  case hyh1_5 => (intro w99 hSw; (try dsimp only at hSw); (try go_simp); (try with_reducible rfl); (try omega))
  simp only [Act.put, List.setIfInBounds_toArray, List.set_cons_zero, List.set_cons_succ]
  refine wpAnyH_take (i := 7) (oi := ⟨some 23, _, _, _, _, _⟩) (v := ?vh1_6) rfl (by kernel_rfl) (by kernel_rfl) (by kernel_rfl) (fun _ _ _ h => h) (Or.inl ⟨by kernel_rfl, ?hyh1_6⟩) (by assumption) ?resth1_6
  case hyh1_6 => (intro w99 hSw; (try dsimp only at hSw); (try go_simp); (try with_reducible rfl); (try omega))
  simp only [Act.put, List.setIfInBounds_toArray, List.set_cons_zero, List.set_cons_succ]
  refine wpAnyH_take (i := 8) (oi := ⟨some 24, _, _, _, _, _⟩) (v := ?vh1_7) rfl (by kernel_rfl) (by kernel_rfl) (by kernel_rfl) (fun _ _ _ h => h) (Or.inl ⟨by kernel_rfl, ?hyh1_7⟩) (by assumption) ?resth1_7
  case hyh1_7 => (intro w99 hSw; (try dsimp only at hSw); (try go_simp); (try with_reducible rfl); (try omega))
  simp only [Act.put, List.setIfInBounds_toArray, List.set_cons_zero, List.set_cons_succ]
  refine wpAnyH_take (i := 9) (oi := ⟨some 25, _, _, _, _, _⟩) (v := ?vh1_8) rfl (by kernel_rfl) (by kernel_rfl) (by kernel_rfl) (fun _ _ _ h => h) (Or.inl ⟨by kernel_rfl, ?hyh1_8⟩) (by assumption) ?resth1_8
  case hyh1_8 => (intro w99 hSw; (try dsimp only at hSw); (try go_simp); (try with_reducible rfl); (try omega))
  simp only [Act.put, List.setIfInBounds_toArray, List.set_cons_zero, List.set_cons_succ]
  refine wpAnyH_take (i := 10) (oi := ⟨some 26, _, _, _, _, _⟩) (v := ?vh1_9) rfl (by kernel_rfl) (by kernel_rfl) (by kernel_rfl) (fun _ _ _ h => h) (Or.inl ⟨by kernel_rfl, ?hyh1_9⟩) (by assumption) ?resth1_9
  case hyh1_9 => (intro w99 hSw; (try dsimp only at hSw); (try go_simp); (try with_reducible rfl); (try omega))
  simp only [Act.put, List.setIfInBounds_toArray, List.set_cons_zero, List.set_cons_succ]
  refine wpAnyH_take (i := 11) (oi := ⟨some 27, _, _, _, _, _⟩) (v := ?vh1_10) rfl (by kernel_rfl) (by kernel_rfl) (by kernel_rfl) (fun _ _ _ h => h) (Or.inl ⟨by kernel_rfl, ?hyh1_10⟩) (by assumption) ?resth1_10
  case hyh1_10 => (intro w99 hSw; (try dsimp only at hSw); (try go_simp); (try with_reducible rfl); (try omega))
  simp only [Act.put, List.setIfInBounds_toArray, List.set_cons_zero, List.set_cons_succ]
  refine wpAnyH_take (i := 12) (oi := ⟨some 28, _, _, _, _, _⟩) (v := ?vh1_11) rfl (by kernel_rfl) (by kernel_rfl) (by kernel_rfl) (fun _ _ _ h => h) (Or.inl ⟨by kernel_rfl, ?hyh1_11⟩) (by assumption) ?resth1_11
  case hyh1_11 => (intro w99 hSw; (try dsimp only at hSw); (try go_simp); (try with_reducible rfl); (try omega))
  simp only [Act.put, List.setIfInBounds_toArray, List.set_cons_zero, List.set_cons_succ]
  refine wpAnyH_take (i := 13) (oi := ⟨some 29, _, _, _, _, _⟩) (v := ?vh1_12) rfl (by kernel_rfl) (by kernel_rfl) (by kernel_rfl) (fun _ _ _ h => h) (Or.inl ⟨by kernel_rfl, ?hyh1_12⟩) (by assumption) ?resth1_12
  case hyh1_12 => (intro w99 hSw; (try dsimp only at hSw); (try go_simp); (try with_reducible rfl); (try omega))
  simp only [Act.put, List.setIfInBounds_toArray, List.set_cons_zero, List.set_cons_succ]
  refine wpAnyH_ready (rs := [4, 5]) (by kernel_rfl) (by simp) ?_
  refine AllReadyH.cons (o := ⟨some 20, _, _, _, _, _⟩) rfl (fun KQ hKQ => ?w4h1_13) (AllReadyH.cons (o := ⟨some 21, _, _, _, _, _⟩) rfl (fun KQ hKQ => ?w5h1_13) AllReadyH.nil)
  case w4h1_13 =>
    go_simp
    refine hKQ.out _ _ (fun i => ((XD.out.go K1.out).blk.drew.alloc (.map #[] 0)).cell i) (fun hHeld9 => ?_)
    clear hKQ KQ hHeld
    have hHeld := hHeld9
    clear hHeld9
    try simp only [Act.put, List.setIfInBounds_toArray, List.set_cons_zero, List.set_cons_succ]
    refine wpAnyH_ready (rs := [5]) (by kernel_rfl) (by simp) ?_
    refine AllReadyH.cons (o := ⟨some 21, _, _, _, _, _⟩) rfl (fun KQ hKQ => ?w5h1_14) AllReadyH.nil
    case w5h1_14 =>
      go_simp
      refine hKQ.out _ _ (fun i => (((XD.out.go K1.out).blk.drew.alloc (.map #[] 0)).alloc (.map #[] 0)).cell i) (fun hHeld9 => ?_)
      clear hKQ KQ hHeld
      have hHeld := hHeld9
      clear hHeld9
      try simp only [Act.put, List.setIfInBounds_toArray, List.set_cons_zero, List.set_cons_succ]
      refine wpAnyH_take (i := 14) (oi := ⟨some 30, _, _, _, _, _⟩) (v := ?vh1_15) rfl (by kernel_rfl) (by kernel_rfl) (by kernel_rfl) (fun _ _ _ h => h) (Or.inl ⟨by kernel_rfl, ?hyh1_15⟩) (by assumption) ?resth1_15
      case hyh1_15 => (intro w99 hSw; (try dsimp only at hSw); (try go_simp); (try with_reducible rfl); (try omega))
      simp only [Act.put, List.setIfInBounds_toArray, List.set_cons_zero, List.set_cons_succ]
      refine wpAnyH_ready (rs := [15]) (by kernel_rfl) (by simp) ?_
      refine AllReadyH.cons (o := ⟨some 31, _, _, _, _, _⟩) rfl (fun KQ hKQ => ?w15h1_16) AllReadyH.nil
      case w15h1_16 =>
        go_simp
        refine hKQ.out _ _ (fun i => ((((XD.out.go K1.out).blk.drew.alloc (.map #[] 0)).alloc (.map #[] 0)).alloc _).cell i) (fun hHeld9 => ?_)
        clear hKQ KQ hHeld
        have hHeld := hHeld9
        clear hHeld9
        try simp only [Act.put, List.setIfInBounds_toArray, List.set_cons_zero, List.set_cons_succ]
        refine wpAnyH_take (i := 16) (oi := ⟨some 5, _, _, _, _, _⟩) (v := ?vh1_17) rfl (by kernel_rfl) (by kernel_rfl) (by kernel_rfl) (fun _ _ _ h => h) (Or.inl ⟨by kernel_rfl, ?hyh1_17⟩) (by assumption) ?resth1_17
        case hyh1_17 => (intro w99 hSw; (try dsimp only at hSw); (try go_simp); (try with_reducible rfl); (try omega))
        simp only [Act.put, List.setIfInBounds_toArray, List.set_cons_zero, List.set_cons_succ]
        refine wpAnyH_done (by kernel_rfl) ?_ _
        clear hHeld
        have CP := Lib.hid (cp_start (w5 := ((w1.drew.alloc (.map #[] 0)).alloc (.map #[] 0)).alloc (.cells #[.int .i64 D.quota, .map (some (w1.heap.size)), .map (some (w1.heap.size + 1)), .slice none 0 0, .int .i64 D.ops, .int .i64 D.fail] 64)) (nb := w1.heap.size) (sb := w1.heap.size + 1) (po := w1.heap.size + 1 + 1) (fb := fb) (D := D) K1.out ((((Kept.refl [] w1).drew.alloc _).alloc _).alloc _) V1.out T1.out (Blk.new' _ (by simp) _ _) (((MapB.new w1.drew).alloc (.map #[] 0)).alloc (.cells #[.int .i64 D.quota, .map (some (w1.heap.size)), .map (some (w1.heap.size + 1)), .slice none 0 0, .int .i64 D.ops, .int .i64 D.fail] 64)) ((by have := MapB.new (ek := ekS) (ev := evF []) (w1.drew.alloc (.map #[] 0)); simpa using this : MapB ekS (evF []) ((w1.drew.alloc (.map #[] 0)).alloc (.map #[] 0)) (w1.heap.size + 1) ([] : List (Bs × Nat))).alloc (.cells #[.int .i64 D.quota, .map (some (w1.heap.size)), .map (some (w1.heap.size + 1)), .slice none 0 0, .int .i64 D.ops, .int .i64 D.fail] 64)) (by omega) (by omega) (by omega) (by omega) VT.out.1 VT.out.2)
        clear hc1 hmm hu hu2
        go_upto_region 6 with fail
        obtain ⟨w5, hw5⟩ : ∃ w5, (((w1.drew.alloc (.map #[] 0)).alloc (.map #[] 0)).alloc (.cells #[.int .i64 D.quota, .map (some (w1.heap.size)), .map (some (w1.heap.size + 1)), .slice none 0 0, .int .i64 D.ops, .int .i64 D.fail] 64)) = w5 := ⟨_, rfl⟩
        rw [hw5] at CP
        (try (change Code.wp _ _ _ _ (((w1.drew.alloc (.map #[] 0)).alloc (.map #[] 0)).alloc (.cells #[.int .i64 D.quota, .map (some (w1.heap.size)), .map (some (w1.heap.size + 1)), .slice none 0 0, .int .i64 D.ops, .int .i64 D.fail] 64))))
        rw [hw5]
        obtain ⟨po, hpo⟩ : ∃ po, w1.heap.size + 1 + 1 = po := ⟨_, rfl⟩
        rw [hpo] at CP
        simp only [hpo]
        obtain ⟨sb, hmb⟩ : ∃ mb, w1.heap.size + 1 = mb := ⟨_, rfl⟩
        rw [hmb] at CP
        simp only [hmb]
        obtain ⟨nb, hlb⟩ : ∃ lb, w1.heap.size = lb := ⟨_, rfl⟩
        rw [hlb] at CP
        simp only [hlb]
        clear hw5 hlb hmb hpo V1 T1 K1
        have hpc := (XD.out.go CP.out.k).blk.cell
        obtain ⟨rb, hrb⟩ : ∃ rb, w5.heap.size = rb := ⟨_, rfl⟩
        go_wp2_with (first
          | (at_range
             refine wpList_rangeM _ rfl _ 61 rfl Try.underlying61 rfl (XD.out.go CP.out.k).now ?_
             intro wR hrR hkR hsR
             have RR := Lib.hid hrR
             have CR := Lib.hid (CP.out.go hkR)
             have RL := Lib.hid (CP.out.x.lt)
             have RB := Lib.hid (show vb < w5.heap.size ∧ tb < w5.heap.size ∧ w.heap.size ≤ w5.heap.size from ⟨CP.out.v.var.lt, CP.out.v.map.lt, CP.out.k.size⟩)
             clear hrR hkR hsR))
        simp only [hrb] at RR RB
        simp only [hrb]
        have RBG := Lib.hid (show rb ∉ [nb, sb, po] from fun hm => by have := RL.out rb hm; omega)
        clear hrb hpc RL
        go_frame
        go_loopg [6] D.now.length (fun gg s wr => ∃ (left : List (Bs × Nat)) (D' : DkD) (idx fb' : List Nat) (A' : Option Addr) (m' c' : Nat) (G' : List Nat) (mt : List (Option Nat × Nat)), gg = left.length ∧ CpI w wr vb tb po fb D D' idx fb' nb sb A' m' c' G' mt ∧ Rng ekS (evF fb) wr bn rb D.now left ∧ rb ∉ G' ∧ D.now.Perm (D'.now.map (pk idx) ++ left) ∧ D'.sur = [] ∧ D'.ch = [])
        case atStart => exact ⟨D.now, _, [], [], none, 0, 0, _, _, rfl, CR.out, RR.out, RBG.out, by simp, rfl, rfl⟩
        case round =>
          clear CP CR RR RBG
          obtain ⟨left, D', idx, fb', A', m', c', G', mt, rfl, hcp, hrg, hrbG, hpn, hds, hdc⟩ := hrel
          have CP := Lib.hid hcp
          have RG := Lib.hid hrg
          have RBG := Lib.hid hrbG
          have PN := Lib.hid hpn
          have DS := Lib.hid hds
          have DC := Lib.hid hdc
          clear hcp hrg hrbG hpn hds hdc
          go_wp2_with (first
            | (at_next
               refine wpList_nextM _ rfl _ rfl rfl RG.out ?_ ?_))
          · intro hl0
            subst hl0
            have PN1 := Lib.hid (show D.now.Perm (D'.now.map (pk idx)) by have h1 := PN.out; rw [List.append_nil] at h1; exact h1)
            clear PN RG RBG RB
            have hpc := (XD.out.go CP.out.k).blk.cell
            obtain ⟨rb, hrb⟩ : ∃ rb, wr.heap.size = rb := ⟨_, rfl⟩
            go_wp2_with (first
              | (at_range
                 refine wpList_rangeM _ rfl _ 61 rfl Try.underlying61 rfl (XD.out.go CP.out.k).sur ?_
                 intro wR hrR hkR hsR
                 have RR := Lib.hid hrR
                 have CR := Lib.hid (CP.out.go hkR)
                 have RL := Lib.hid (CP.out.x.lt)
                 have RB := Lib.hid (show vb < wr.heap.size ∧ tb < wr.heap.size ∧ w.heap.size ≤ wr.heap.size from ⟨CP.out.v.var.lt, CP.out.v.map.lt, CP.out.k.size⟩)
                 clear hrR hkR hsR))
            simp only [hrb] at RR RB
            simp only [hrb]
            have RBG := Lib.hid (show rb ∉ G' from fun hm => by have := RL.out rb hm; omega)
            clear hrb hpc RL
            go_frame
            go_loopg [8] D.sur.length (fun gg s wr => ∃ (left : List (Bs × Nat)) (D' : DkD) (idx fb' : List Nat) (A' : Option Addr) (m' c' : Nat) (G' : List Nat) (mt : List (Option Nat × Nat)), gg = left.length ∧ CpI w wr vb tb po fb D D' idx fb' nb sb A' m' c' G' mt ∧ Rng ekS (evF fb) wr bs rb D.sur left ∧ rb ∉ G' ∧ D.now.Perm (D'.now.map (pk idx)) ∧ D.sur.Perm (D'.sur.map (pk idx) ++ left) ∧ D'.ch = [])
            case atStart => exact ⟨D.sur, D', idx, fb', A', m', c', G', mt, rfl, CR.out, RR.out, RBG.out, PN1.out, by rw [DS.out]; simp, DC.out⟩
            case round =>
              clear CP CR RR RBG PN1 DS DC
              obtain ⟨left, D', idx, fb', A', m', c', G', mt, rfl, hcp, hrg, hrbG, hpn, hps, hdc⟩ := hrel
              have CP := Lib.hid hcp
              have RG := Lib.hid hrg
              have RBG := Lib.hid hrbG
              have PN := Lib.hid hpn
              have PS := Lib.hid hps
              have DC := Lib.hid hdc
              clear hcp hrg hrbG hpn hps hdc
              go_wp2_with (first
                | (at_next
                   refine wpList_nextM _ rfl _ rfl rfl RG.out ?_ ?_))
              · intro hl0
                subst hl0
                have PS1 := Lib.hid (show D.sur.Perm (D'.sur.map (pk idx)) by have h1 := PS.out; rw [List.append_nil] at h1; exact h1)
                clear PS RG RBG RB
                have hpc := (XD.out.go CP.out.k).blk.cell
                go_wp2
                go_loopg [73] D.ch.length (fun gg i wr => ∃ (j : Nat) (D' : DkD) (idx fb' : List Nat) (A' : Option Addr) (m' c' : Nat) (G' : List Nat) (mt : List (Option Nat × Nat)), j ≤ D.ch.length ∧ gg = D.ch.length - j ∧ i = .int .i64 (j : Nat) ∧ CpI w wr vb tb po fb D D' idx fb' nb sb A' m' c' G' mt ∧ D.now.Perm (D'.now.map (pk idx)) ∧ D.sur.Perm (D'.sur.map (pk idx)) ∧ D'.ch.length = j ∧ ∀ (t : Nat) (c1 c2 : ChD), D.ch[t]? = some c1 → D'.ch[t]? = some c2 → ChR idx c1 c2)
                case atStart => exact ⟨0, D', idx, fb', A', m', c', G', mt, by omega, by omega, rfl, CP.out, PN.out, PS1.out, by rw [DC.out]; rfl, fun t c1 c2 h1 h2 => by rw [DC.out] at h2; simp at h2⟩
                case round =>
                  clear CP PN PS1 DC hpc
                  obtain ⟨j, D', idx, fb', A', m', c', G', mt, hj, rfl, rfl, hcp, hpn, hps, hcl, hchr⟩ := hrel
                  have CP := Lib.hid hcp
                  have PN := Lib.hid hpn
                  have PS := Lib.hid hps
                  have CL := Lib.hid hcl
                  have CHR := Lib.hid hchr
                  clear hcp hpn hps hcl hchr
                  by_cases hlt : j < D.ch.length
                  · obtain ⟨cc, hcc⟩ : ∃ cc, D.ch[j]? = some cc := ⟨_, List.getElem?_eq_getElem hlt⟩
                    have XW := Lib.hid (XD.out.go CP.out.k)
                    obtain ⟨g, rfl, hrow⟩ : ∃ g, A = some ⟨g, 0, none⟩ ∧ RowAt 76 4 (chC fb) wr g c D.ch := by
                      rcases RowAt.of_own (chC_len fb) (XW.out.row) rfl with ⟨_, h2⟩ | ⟨g, cap, h1, h2⟩
                      · rw [h2] at hcc; simp at hcc
                      · injection h1 with e1 e2 e3
                        subst e1 e3
                        exact ⟨g, rfl, h2⟩
                    have q0 := hrow.cell hcc (c := 0) (v := .int .i64 cc.kind) rfl
                    have q1 := hrow.cell hcc (c := 1) (v := .string (strOf cc.name)) rfl
                    have q2 := hrow.cell hcc (c := 2) (v := .string (strOf cc.dst)) rfl
                    have q3 := hrow.cell hcc (c := 3) (v := .pointer (cc.f.map fun i => ⟨fbA fb i, 0, none⟩)) rfl
                    rw [Nat.add_zero] at q0
                    have hgl := hrow.lt
                    have i0 : (0 : Int) ≤ (j : Int) := by omega
                    have i1 : (j : Int) < (D.ch.length : Int) := by omega
                    have iw : IntKind.i64.wrap ((j : Int) + 1) = (j : Int) + 1 := IntWalk.i64_in _ (by have := CHL.out; omega)
                    have HCC := Lib.hid hcc
                    have GLT := Lib.hid (CP.out.x.lt)
                    have TBL := Lib.hid (CP.out.v.map.lt)
                    have VBL := Lib.hid (CP.out.v.var.lt)
                    clear hrow hcc
                    cases hcf : cc.f with
                    | none =>
                      rw [hcf] at q3
                      simp only [Option.map_none] at q3
                      have HCF := Lib.hid hcf
                      clear hcf
                      go_upto_region 18 with (first
                        | (((with_reducible show wpList _ _ _ ({ dst := none, op := Op.store 76 (.tmp 11) (.tmp 76), type := _, pos := _, after := _, guard := _ } :: _) _ _); refine wpList_put (t := 76) rfl 76 (.tmp 11) (.tmp 76) rfl _ (by rfl) (by rfl) (by (repeat (first | (apply Blk.new'; simp; done) | apply Blk.alloc | apply Blk.drew))) (by rfl) (by kernel_rfl) (by simp [Value.oneCell']) ?_; intro w5 hb5 hk5; have Hb5 := Lib.hid hb5; have Hk5 := Lib.hid hk5; clear hb5 hk5)
                           have K5 := Lib.hid (((Kept.refl [] wr).alloc _).trans Hk5.out (fun i hi => .inr (by simp at hi; omega)) : Kept [] wr w5)
                           have hx5 := Hb5.out.cell
                           have hf5 := Hb5.out.frozen
                           have hl5 := Hb5.out.lt)
                        | (go_at_call 57
                           with_reducible refine (copied_none w5 ((CP.out.go K5.out).v)).mono ?_
                           rintro e wq ⟨rfl, rfl⟩))
                      have CQ := Lib.hid (show CpI w (wq.setCell ⟨wr.heap.size, 3, none⟩ (.pointer none)) vb tb po fb D { D' with files := D'.files } idx fb' nb sb A' m' c' G' mt from (CP.out.go K5.out).far ((Kept.refl [wr.heap.size] wq).setCell (p := ⟨wr.heap.size, 3, none⟩) (.inl (by simp)) _) (fun hm => by have := GLT.out _ hm; omega) (by have := VBL.out; omega) (by have := TBL.out; omega) CP.out.k.size (fun q hq e => by
                        obtain ⟨i, hi, e2⟩ := CP.out.mkk q hq
                        rw [e] at e2
                        injection e2 with e2
                        have h1 := HFB.out i hi
                        have h2 := CP.out.k.size
                        omega))
                      have Q6 := Lib.hid (show Blk (wq.setCell ⟨wr.heap.size, 3, none⟩ (.pointer none)) wr.heap.size 76 #[.int .i64 cc.kind, .string (strOf cc.name), .string (strOf cc.dst), .pointer none] from Hb5.out.set 3 _)
                      clear hx5 hf5 hl5 q0 q1 q2 q3
                      generalize wq.setCell ⟨wr.heap.size, 3, none⟩ (.pointer none) = w6 at *
                      have QG := Lib.hid (show wr.heap.size ∉ G' from fun hm => by have := GLT.out _ hm; omega)
                      obtain ⟨idx2, hi2⟩ : ∃ idx2, idx = idx2 := ⟨_, rfl⟩
                      obtain ⟨more, hmo⟩ : ∃ more, idx2 = idx ++ more := ⟨[], by rw [← hi2]; simp⟩
                      have HMO := Lib.hid hmo
                      obtain ⟨fb2, hf2⟩ : ∃ fb2, fb' = fb2 := ⟨_, rfl⟩
                      obtain ⟨mt2, hm2⟩ : ∃ mt2, mt = mt2 := ⟨_, rfl⟩
                      have PN2 := Lib.hid (show D.now.Perm (D'.now.map (pk idx2)) by rw [← hi2]; exact PN.out)
                      have PS2 := Lib.hid (show D.sur.Perm (D'.sur.map (pk idx2)) by rw [← hi2]; exact PS.out)
                      rw [hi2, hf2, hm2] at CQ
                      have RC := Lib.hid (show ChR idx2 cc ⟨cc.kind, cc.name, cc.dst, none⟩ from ⟨rfl, rfl, rfl, .inl ⟨HCF.out, rfl⟩⟩)
                      have CFI := Lib.hid (show ∀ i, (⟨cc.kind, cc.name, cc.dst, none⟩ : ChD).f = some i → i < idx2.length from fun i h => by cases h)
                      have PVE := Lib.hid (show True from trivial)
                      clear hi2 hmo hf2 hm2
                      have hq6 := Q6.out.cell
                      have hp6 := CQ.out.x.blk.cell
                      have hpa := (CQ.out.x.blk.alloc (.cells #[.int .i64 cc.kind, .string (strOf cc.name), .string (strOf cc.dst), .pointer none] 76)).cell
                      have hlen : D'.ch.length + 1 ≤ maxLen := by have h1 := CHL.out; have h2 := CL.out; unfold maxLen; omega
                      have hby : (D'.ch.length + 1) * 48 ≤ 140737488355328 := by have h1 := CHL.out; have h2 := CL.out; omega
                      go_upto_region 18 with fail
                      refine wp_region_held_drew (S := (fun w' => ∀ i, w'.cell? ⟨wr.heap.size, i, none⟩ = (#[.int .i64 cc.kind, .string (strOf cc.name), .string (strOf cc.dst), .pointer none] : Array Value)[i]?)) (by kernel_rfl) (fun i => hq6 i) (fun hHeld => ?_)
                      refine wpAnyH_take (i := 0) (oi := ⟨some 82, _, _, _, _, _⟩) (v := ?vh2_1) rfl (by kernel_rfl) (by kernel_rfl) (by kernel_rfl) (fun _ _ _ h => h) (Or.inl ⟨by kernel_rfl, ?hyh2_1⟩) (by assumption) ?resth2_1
                      case hyh2_1 => (intro w99 hSw; (try dsimp only at hSw); (try go_simp); (try with_reducible rfl); (try omega))
                      simp only [Act.put, List.setIfInBounds_toArray, List.set_cons_zero, List.set_cons_succ]
                      refine wpAnyH_take (i := 1) (oi := ⟨some 83, _, _, _, _, _⟩) (v := ?vh2_2) rfl (by kernel_rfl) (by kernel_rfl) (by kernel_rfl) (fun _ _ _ h => h) (Or.inl ⟨by kernel_rfl, ?hyh2_2⟩) (by assumption) ?resth2_2
                      case hyh2_2 => (intro w99 hSw; (try dsimp only at hSw); (try go_simp); (try with_reducible rfl); (try omega))
                      simp only [Act.put, List.setIfInBounds_toArray, List.set_cons_zero, List.set_cons_succ]
                      refine wpAnyH_take (i := 2) (oi := ⟨some 84, _, _, _, _, _⟩) (v := ?vh2_3) rfl (by kernel_rfl) (by kernel_rfl) (by kernel_rfl) (fun _ _ _ h => h) (Or.inl ⟨by kernel_rfl, ?hyh2_3⟩) (by assumption) ?resth2_3
                      case hyh2_3 => (intro w99 hSw; (try dsimp only at hSw); (try go_simp); (try with_reducible rfl); (try omega))
                      simp only [Act.put, List.setIfInBounds_toArray, List.set_cons_zero, List.set_cons_succ]
                      refine wpAnyH_take (i := 3) (oi := ⟨some 85, _, _, _, _, _⟩) (v := ?vh2_4) rfl (by kernel_rfl) (by kernel_rfl) (by kernel_rfl) (fun _ _ _ h => h) (Or.inl ⟨by kernel_rfl, ?hyh2_4⟩) (by assumption) ?resth2_4
                      case hyh2_4 => (intro w99 hSw; (try dsimp only at hSw); (try go_simp); (try with_reducible rfl); (try omega))
                      simp only [Act.put, List.setIfInBounds_toArray, List.set_cons_zero, List.set_cons_succ]
                      refine wpAnyH_take (i := 5) (oi := ⟨some 87, _, _, _, _, _⟩) (v := ?vh2_5) rfl (by kernel_rfl) (by kernel_rfl) (by kernel_rfl) (fun _ _ _ h => h) (Or.inl ⟨by kernel_rfl, ?hyh2_5⟩) (by assumption) ?resth2_5
                      case hyh2_5 => (intro w99 hSw; (try dsimp only at hSw); (try go_simp); (try with_reducible rfl); (try omega))
                      simp only [Act.put, List.setIfInBounds_toArray, List.set_cons_zero, List.set_cons_succ]
                      refine wpAnyH_ready (rs := [4, 6]) (by kernel_rfl) (by simp) ?_
                      refine AllReadyH.cons (o := ⟨some 86, _, _, _, _, _⟩) rfl (fun KQ hKQ => ?w4h2_6) (AllReadyH.cons (o := ⟨some 88, _, _, _, _, _⟩) rfl (fun KQ hKQ => ?w6h2_6) AllReadyH.nil)
                      case w4h2_6 =>
                        go_simp
                        refine hKQ.out _ _ (fun i => hq6 i) (fun hHeld9 => ?_)
                        clear hKQ KQ hHeld
                        have hHeld := hHeld9
                        clear hHeld9
                        try simp only [Act.put, List.setIfInBounds_toArray, List.set_cons_zero, List.set_cons_succ]
                        refine wpAnyH_ready (rs := [6]) (by kernel_rfl) (by simp) ?_
                        refine AllReadyH.cons (o := ⟨some 88, _, _, _, _, _⟩) rfl (fun KQ hKQ => ?w6h2_7) AllReadyH.nil
                        case w6h2_7 =>
                          go_simp
                          refine hKQ.out _ _ (fun i => ((Q6.out.drew).alloc _).cell i) (fun hHeld9 => ?_)
                          clear hKQ KQ hHeld
                          have hHeld := hHeld9
                          clear hHeld9
                          try simp only [Act.put, List.setIfInBounds_toArray, List.set_cons_zero, List.set_cons_succ]
                          refine wpAnyH_ready (rs := [7]) (by kernel_rfl) (by simp) ?_
                          refine AllReadyH.cons (o := ⟨some 89, _, _, _, _, _⟩) rfl (fun KQ hKQ => ?w7h2_8) AllReadyH.nil
                          case w7h2_8 =>
                            refine step_app _ rfl (.tmp 86) (.tmp 88) 62 rfl elem_chg (by first | (simp [Act.eval]; done) | (simp [Act.eval]; rfl) | rfl) (CQ.out.x.row.drew.alloc _) (by first | (simp [Act.eval]; done) | (simp [Act.eval]; rfl) | rfl) (Rd.laid _ [.int .i64 cc.kind, .string (strOf cc.name), .string (strOf cc.dst), .pointer none] _) rfl (by simp [Value.oneCell']) hlen hby ?_
                            intro v8 w8 ho8 hk8 hr8
                            obtain ⟨A8, m8, c8, rfl⟩ := Own.form' ho8
                            have O8 := Lib.hid ho8
                            have K8 := Lib.hid hk8
                            have R8 := Lib.hid hr8
                            have Q8 := Lib.hid (((Q6.out.drew).alloc (.cells #[.int .i64 cc.kind, .string (strOf cc.name), .string (strOf cc.dst), .pointer none] 76)).kept hk8 (fun hm => QG.out (CQ.out.x.inr _ hm)))
                            have P8 := Lib.hid (((CQ.out.x.blk.drew).alloc (.cells #[.int .i64 cc.kind, .string (strOf cc.name), .string (strOf cc.dst), .pointer none] 76)).kept hk8 CQ.out.x.row_ne.1)
                            have hp8 := P8.out.cell
                            have hpf8 := P8.out.frozen
                            have hpl8 := P8.out.lt
                            clear ho8 hk8 hr8
                            refine hKQ.out _ _ (fun i => Q8.out.cell i) (fun hHeld9 => ?_)
                            clear hKQ KQ hHeld
                            have hHeld := hHeld9
                            clear hHeld9
                            try simp only [Act.put, List.setIfInBounds_toArray, List.set_cons_zero, List.set_cons_succ]
                            refine wpAnyH_take (i := 8) (oi := ⟨some 90, _, _, _, _, _⟩) (v := ?vh2_9) rfl (by kernel_rfl) (by kernel_rfl) (by kernel_rfl) (fun _ _ _ h => h) (Or.inl ⟨by kernel_rfl, ?hyh2_9⟩) (by assumption) ?resth2_9
                            case hyh2_9 => (intro w99 hSw; (try dsimp only at hSw); (try go_simp); (try with_reducible rfl); (try omega))
                            simp only [Act.put, List.setIfInBounds_toArray, List.set_cons_zero, List.set_cons_succ]
                            refine wpAnyH_take (i := 9) (oi := ⟨some 91, _, _, _, _, _⟩) (v := ?vh2_10) rfl (by kernel_rfl) (by kernel_rfl) (by kernel_rfl) (fun _ _ _ h => h) (Or.inl ⟨by kernel_rfl, ?hyh2_10⟩) (by assumption) ?resth2_10
                            case hyh2_10 => (intro w99 hSw; (try dsimp only at hSw); (try go_simp); (try with_reducible rfl); (try omega))
                            simp only [Act.put, List.setIfInBounds_toArray, List.set_cons_zero, List.set_cons_succ]
                            refine wpAnyH_ready (rs := [10]) (by kernel_rfl) (by simp) ?_
                            refine AllReadyH.cons (o := ⟨none, _, _, _, _, _⟩) rfl (fun KQ hKQ => ?w10h2_11) AllReadyH.nil
                            case w10h2_11 =>
                              go_simp
                              refine hKQ.out _ _ (fun i => (Q8.out.far (p := ⟨po, 3, none⟩) (fun e => QG.out (by rw [show wr.heap.size = po from e]; exact CQ.out.x.inp)) _).cell i) (fun hHeld9 => ?_)
                              clear hKQ KQ hHeld
                              have hHeld := hHeld9
                              clear hHeld9
                              try simp only [Act.put, List.setIfInBounds_toArray, List.set_cons_zero, List.set_cons_succ]
                              refine wpAnyH_done (by kernel_rfl) ?_ _
                              clear hHeld
                              have ho : Own w8 76 4 (.slice A8 m8 c8) (D'.ch ++ [(⟨cc.kind, cc.name, cc.dst, none⟩ : ChD)]).length (chsC fb2 (D'.ch ++ [(⟨cc.kind, cc.name, cc.dst, none⟩ : ChD)])) := by
                                have e1 : chsC fb2 [(⟨cc.kind, cc.name, cc.dst, none⟩ : ChD)] = [.int .i64 cc.kind, .string (strOf cc.name), .string (strOf cc.dst), .pointer none] := by
                                  show ([(⟨cc.kind, cc.name, cc.dst, none⟩ : ChD)].map (chC fb2)).flatten = _
                                  rw [List.map_cons, List.map_nil]
                                  simp [chC]
                                rw [chsC_app, e1, List.length_append]
                                exact O8.out
                              have hres := CQ.out.chPut HFB.out ((Kept.refl [] w6).drew.alloc _) K8.out ho R8.out (fun c3 h3 i h4 => by
                                rcases List.mem_append.1 h3 with h5 | h5
                                · exact CQ.out.cr c3 h5 i h4
                                · simp at h5; rw [h5] at h4; exact CFI.out i h4)
                              have HRES := Lib.hid hres.1
                              clear hres ho
                              go_wp2
                              go_roundg (D.ch.length - (j + 1))
                              case measure => omega
                              case rel => exact ⟨j + 1, _, idx2, fb2, A8, m8, c8, _, mt2, by omega, rfl, by go_num, HRES.out, PN2.out, PS2.out, by simp [CL.out], fun t c1 c2 h1 h2 => by
                                have h2' : (D'.ch ++ [(⟨cc.kind, cc.name, cc.dst, none⟩ : ChD)])[t]? = some c2 := h2
                                by_cases ht : t < D'.ch.length
                                · rw [List.getElem?_append_left ht] at h2'
                                  have := (CHR.out t c1 c2 h1 h2').ext (more := more)
                                  rw [← HMO.out] at this
                                  exact this
                                · have htl := (List.getElem?_eq_some_iff.1 h2').1
                                  rw [List.length_append, List.length_singleton] at htl
                                  have htj : t = j := by have := CL.out; omega
                                  subst htj
                                  rw [List.getElem?_append_right (by omega), CL.out, Nat.sub_self] at h2'
                                  simp at h2'
                                  rw [HCC.out] at h1
                                  injection h1 with h1
                                  rw [← h2', ← h1]
                                  exact RC.out⟩
                      case w6h2_6 =>
                        go_simp
                        refine hKQ.out _ _ (fun i => ((Q6.out.drew).alloc _).cell i) (fun hHeld9 => ?_)
                        clear hKQ KQ hHeld
                        have hHeld := hHeld9
                        clear hHeld9
                        try simp only [Act.put, List.setIfInBounds_toArray, List.set_cons_zero, List.set_cons_succ]
                        refine wpAnyH_ready (rs := [4]) (by kernel_rfl) (by simp) ?_
                        refine AllReadyH.cons (o := ⟨some 86, _, _, _, _, _⟩) rfl (fun KQ hKQ => ?w4h2_12) AllReadyH.nil
                        case w4h2_12 =>
                          go_simp
                          refine hKQ.out _ _ (fun i => ((Q6.out.drew).alloc _).cell i) (fun hHeld9 => ?_)
                          clear hKQ KQ hHeld
                          have hHeld := hHeld9
                          clear hHeld9
                          try simp only [Act.put, List.setIfInBounds_toArray, List.set_cons_zero, List.set_cons_succ]
                          refine wpAnyH_ready (rs := [7]) (by kernel_rfl) (by simp) ?_
                          refine AllReadyH.cons (o := ⟨some 89, _, _, _, _, _⟩) rfl (fun KQ hKQ => ?w7h2_13) AllReadyH.nil
                          case w7h2_13 =>
                            refine step_app _ rfl (.tmp 86) (.tmp 88) 62 rfl elem_chg (by first | (simp [Act.eval]; done) | (simp [Act.eval]; rfl) | rfl) (CQ.out.x.row.drew.alloc _) (by first | (simp [Act.eval]; done) | (simp [Act.eval]; rfl) | rfl) (Rd.laid _ [.int .i64 cc.kind, .string (strOf cc.name), .string (strOf cc.dst), .pointer none] _) rfl (by simp [Value.oneCell']) hlen hby ?_
                            intro v8 w8 ho8 hk8 hr8
                            obtain ⟨A8, m8, c8, rfl⟩ := Own.form' ho8
                            have O8 := Lib.hid ho8
                            have K8 := Lib.hid hk8
                            have R8 := Lib.hid hr8
                            have Q8 := Lib.hid (((Q6.out.drew).alloc (.cells #[.int .i64 cc.kind, .string (strOf cc.name), .string (strOf cc.dst), .pointer none] 76)).kept hk8 (fun hm => QG.out (CQ.out.x.inr _ hm)))
                            have P8 := Lib.hid (((CQ.out.x.blk.drew).alloc (.cells #[.int .i64 cc.kind, .string (strOf cc.name), .string (strOf cc.dst), .pointer none] 76)).kept hk8 CQ.out.x.row_ne.1)
                            have hp8 := P8.out.cell
                            have hpf8 := P8.out.frozen
                            have hpl8 := P8.out.lt
                            clear ho8 hk8 hr8
                            refine hKQ.out _ _ (fun i => Q8.out.cell i) (fun hHeld9 => ?_)
                            clear hKQ KQ hHeld
                            have hHeld := hHeld9
                            clear hHeld9
                            try simp only [Act.put, List.setIfInBounds_toArray, List.set_cons_zero, List.set_cons_succ]
                            refine wpAnyH_take (i := 8) (oi := ⟨some 90, _, _, _, _, _⟩) (v := ?vh2_14) rfl (by kernel_rfl) (by kernel_rfl) (by kernel_rfl) (fun _ _ _ h => h) (Or.inl ⟨by kernel_rfl, ?hyh2_14⟩) (by assumption) ?resth2_14
                            case hyh2_14 => (intro w99 hSw; (try dsimp only at hSw); (try go_simp); (try with_reducible rfl); (try omega))
                            simp only [Act.put, List.setIfInBounds_toArray, List.set_cons_zero, List.set_cons_succ]
                            refine wpAnyH_take (i := 9) (oi := ⟨some 91, _, _, _, _, _⟩) (v := ?vh2_15) rfl (by kernel_rfl) (by kernel_rfl) (by kernel_rfl) (fun _ _ _ h => h) (Or.inl ⟨by kernel_rfl, ?hyh2_15⟩) (by assumption) ?resth2_15
                            case hyh2_15 => (intro w99 hSw; (try dsimp only at hSw); (try go_simp); (try with_reducible rfl); (try omega))
                            simp only [Act.put, List.setIfInBounds_toArray, List.set_cons_zero, List.set_cons_succ]
                            refine wpAnyH_ready (rs := [10]) (by kernel_rfl) (by simp) ?_
                            refine AllReadyH.cons (o := ⟨none, _, _, _, _, _⟩) rfl (fun KQ hKQ => ?w10h2_16) AllReadyH.nil
                            case w10h2_16 =>
                              go_simp
                              refine hKQ.out _ _ (fun i => (Q8.out.far (p := ⟨po, 3, none⟩) (fun e => QG.out (by rw [show wr.heap.size = po from e]; exact CQ.out.x.inp)) _).cell i) (fun hHeld9 => ?_)
                              clear hKQ KQ hHeld
                              have hHeld := hHeld9
                              clear hHeld9
                              try simp only [Act.put, List.setIfInBounds_toArray, List.set_cons_zero, List.set_cons_succ]
                              refine wpAnyH_done (by kernel_rfl) ?_ _
                              clear hHeld
                              have ho : Own w8 76 4 (.slice A8 m8 c8) (D'.ch ++ [(⟨cc.kind, cc.name, cc.dst, none⟩ : ChD)]).length (chsC fb2 (D'.ch ++ [(⟨cc.kind, cc.name, cc.dst, none⟩ : ChD)])) := by
                                have e1 : chsC fb2 [(⟨cc.kind, cc.name, cc.dst, none⟩ : ChD)] = [.int .i64 cc.kind, .string (strOf cc.name), .string (strOf cc.dst), .pointer none] := by
                                  show ([(⟨cc.kind, cc.name, cc.dst, none⟩ : ChD)].map (chC fb2)).flatten = _
                                  rw [List.map_cons, List.map_nil]
                                  simp [chC]
                                rw [chsC_app, e1, List.length_append]
                                exact O8.out
                              have hres := CQ.out.chPut HFB.out ((Kept.refl [] w6).drew.alloc _) K8.out ho R8.out (fun c3 h3 i h4 => by
                                rcases List.mem_append.1 h3 with h5 | h5
                                · exact CQ.out.cr c3 h5 i h4
                                · simp at h5; rw [h5] at h4; exact CFI.out i h4)
                              have HRES := Lib.hid hres.1
                              clear hres ho
                              go_wp2
                              go_roundg (D.ch.length - (j + 1))
                              case measure => omega
                              case rel => exact ⟨j + 1, _, idx2, fb2, A8, m8, c8, _, mt2, by omega, rfl, by go_num, HRES.out, PN2.out, PS2.out, by simp [CL.out], fun t c1 c2 h1 h2 => by
                                have h2' : (D'.ch ++ [(⟨cc.kind, cc.name, cc.dst, none⟩ : ChD)])[t]? = some c2 := h2
                                by_cases ht : t < D'.ch.length
                                · rw [List.getElem?_append_left ht] at h2'
                                  have := (CHR.out t c1 c2 h1 h2').ext (more := more)
                                  rw [← HMO.out] at this
                                  exact this
                                · have htl := (List.getElem?_eq_some_iff.1 h2').1
                                  rw [List.length_append, List.length_singleton] at htl
                                  have htj : t = j := by have := CL.out; omega
                                  subst htj
                                  rw [List.getElem?_append_right (by omega), CL.out, Nat.sub_self] at h2'
                                  simp at h2'
                                  rw [HCC.out] at h1
                                  injection h1 with h1
                                  rw [← h2', ← h1]
                                  exact RC.out⟩
                    | some qi =>
                      rw [hcf] at q3
                      simp only [Option.map_some] at q3
                      have HCF := Lib.hid hcf
                      have hil : qi < D.files.length := IV.out.ok.ch cc (List.mem_of_getElem? HCC.out) qi hcf
                      obtain ⟨f, hf⟩ : ∃ f, D.files[qi]? = some f := ⟨_, List.getElem?_eq_getElem hil⟩
                      have FL := Lib.hid (IV.out.ok.sure f (List.mem_of_getElem? hf)).2
                      have HFI := Lib.hid hf
                      obtain ⟨AF, cF, _, _, hFb, hFo, _⟩ := (XW.out.fs).get hf
                      have FBK := Lib.hid hFb
                      have FOW := Lib.hid hFo
                      clear hcf hf hFb hFo
                      go_upto_region 18 with (first
                        | (((with_reducible show wpList _ _ _ ({ dst := none, op := Op.store 76 (.tmp 11) (.tmp 76), type := _, pos := _, after := _, guard := _ } :: _) _ _); refine wpList_put (t := 76) rfl 76 (.tmp 11) (.tmp 76) rfl _ (by rfl) (by rfl) (by (repeat (first | (apply Blk.new'; simp; done) | apply Blk.alloc | apply Blk.drew))) (by rfl) (by kernel_rfl) (by simp [Value.oneCell']) ?_; intro w5 hb5 hk5; have Hb5 := Lib.hid hb5; have Hk5 := Lib.hid hk5; clear hb5 hk5)
                           have K5 := Lib.hid (((Kept.refl [] wr).alloc _).trans Hk5.out (fun i hi => .inr (by simp at hi; omega)) : Kept [] wr w5)
                           have hx5 := Hb5.out.cell
                           have hf5 := Hb5.out.frozen
                           have hl5 := Hb5.out.lt)
                        | (go_at_call 57
                           with_reducible refine (copied_any w5 ((CP.out.go K5.out).v) (FBK.out.kept K5.out (by simp)) (FOW.out.kept K5.out (by simp)) FL.out).mono ?_
                           rintro e wq ⟨gn, rfl, hpost⟩
                           obtain ⟨idx2, fb2, G2, mt2, fs2, jj, hcp, hjj, hgn, ⟨more, hmore⟩, hsub, hnew, hk3⟩ := (CP.out.go K5.out).copied ((XW.out.go K5.out).fs) HFI.out hpost
                           have CP3 := Lib.hid hcp
                           have HJ := Lib.hid hjj
                           have HMO := Lib.hid hmore
                           have HGN := Lib.hid hgn
                           have QG := Lib.hid (show wr.heap.size ∉ G2 from fun hm => by
                             rcases hnew _ hm with h1 | h1
                             · have := GLT.out _ h1; omega
                             · have := Hb5.out.lt; omega)
                           have Bq := Lib.hid (Hb5.out.kept hk3 (by have := TBL.out; simp; omega))
                           have hxq := Bq.out.cell
                           have hfq := Bq.out.frozen
                           have hlq := Bq.out.lt
                           clear hcp hjj hmore hgn hnew hsub hk3 hpost hx5 hf5 hl5))
                      have CQ := Lib.hid (show CpI w (wq.setCell ⟨wr.heap.size, 3, none⟩ (.pointer (some ⟨gn, 0, none⟩))) vb tb po fb D { D' with files := fs2 } idx2 fb2 nb sb A' m' c' G2 mt2 from CP3.out.far ((Kept.refl [wr.heap.size] wq).setCell (p := ⟨wr.heap.size, 3, none⟩) (.inl (by simp)) _) QG.out (by have := VBL.out; omega) (by have := TBL.out; omega) CP.out.k.size (fun q hq e => by
                        obtain ⟨i, hi, e2⟩ := CP3.out.mkk q hq
                        rw [e] at e2
                        injection e2 with e2
                        have h1 := HFB.out i hi
                        have h2 := CP.out.k.size
                        omega))
                      have Q6 := Lib.hid (show Blk (wq.setCell ⟨wr.heap.size, 3, none⟩ (.pointer (some ⟨gn, 0, none⟩))) wr.heap.size 76 #[.int .i64 cc.kind, .string (strOf cc.name), .string (strOf cc.dst), .pointer (some ⟨gn, 0, none⟩)] from Bq.out.set 3 _)
                      clear hxq hfq hlq q0 q1 q2 q3
                      generalize wq.setCell ⟨wr.heap.size, 3, none⟩ (.pointer (some ⟨gn, 0, none⟩)) = w6 at *
                      have PN2 := Lib.hid (show D.now.Perm (D'.now.map (pk idx2)) by rw [HMO.out, pk_ext CP.out.nr]; exact PN.out)
                      have PS2 := Lib.hid (show D.sur.Perm (D'.sur.map (pk idx2)) by rw [HMO.out, pk_ext CP.out.sr]; exact PS.out)
                      have RC := Lib.hid (show ChR idx2 cc ⟨cc.kind, cc.name, cc.dst, some jj⟩ from ⟨rfl, rfl, rfl, .inr ⟨qi, jj, HCF.out, rfl, HJ.out⟩⟩)
                      have CFI := Lib.hid (show ∀ i, (⟨cc.kind, cc.name, cc.dst, some jj⟩ : ChD).f = some i → i < idx2.length from fun i h => by injection h with h; subst h; exact (List.getElem?_eq_some_iff.1 HJ.out).1)
                      have PVE := Lib.hid (show fbA fb2 jj = gn from HGN.out.symm)
                      have hq6 := Q6.out.cell
                      have hp6 := CQ.out.x.blk.cell
                      have hpa := (CQ.out.x.blk.alloc (.cells #[.int .i64 cc.kind, .string (strOf cc.name), .string (strOf cc.dst), .pointer (some ⟨gn, 0, none⟩)] 76)).cell
                      have hlen : D'.ch.length + 1 ≤ maxLen := by have h1 := CHL.out; have h2 := CL.out; unfold maxLen; omega
                      have hby : (D'.ch.length + 1) * 48 ≤ 140737488355328 := by have h1 := CHL.out; have h2 := CL.out; omega
                      go_upto_region 18 with fail
                      refine wp_region_held_drew (S := (fun w' => ∀ i, w'.cell? ⟨wr.heap.size, i, none⟩ = (#[.int .i64 cc.kind, .string (strOf cc.name), .string (strOf cc.dst), .pointer (some ⟨gn, 0, none⟩)] : Array Value)[i]?)) (by kernel_rfl) (fun i => hq6 i) (fun hHeld => ?_)
                      refine wpAnyH_take (i := 0) (oi := ⟨some 82, _, _, _, _, _⟩) (v := ?vh3_1) rfl (by kernel_rfl) (by kernel_rfl) (by kernel_rfl) (fun _ _ _ h => h) (Or.inl ⟨by kernel_rfl, ?hyh3_1⟩) (by assumption) ?resth3_1
                      case hyh3_1 => (intro w99 hSw; (try dsimp only at hSw); (try go_simp); (try with_reducible rfl); (try omega))
                      simp only [Act.put, List.setIfInBounds_toArray, List.set_cons_zero, List.set_cons_succ]
                      refine wpAnyH_take (i := 1) (oi := ⟨some 83, _, _, _, _, _⟩) (v := ?vh3_2) rfl (by kernel_rfl) (by kernel_rfl) (by kernel_rfl) (fun _ _ _ h => h) (Or.inl ⟨by kernel_rfl, ?hyh3_2⟩) (by assumption) ?resth3_2
                      case hyh3_2 => (intro w99 hSw; (try dsimp only at hSw); (try go_simp); (try with_reducible rfl); (try omega))
                      simp only [Act.put, List.setIfInBounds_toArray, List.set_cons_zero, List.set_cons_succ]
                      refine wpAnyH_take (i := 2) (oi := ⟨some 84, _, _, _, _, _⟩) (v := ?vh3_3) rfl (by kernel_rfl) (by kernel_rfl) (by kernel_rfl) (fun _ _ _ h => h) (Or.inl ⟨by kernel_rfl, ?hyh3_3⟩) (by assumption) ?resth3_3
                      case hyh3_3 => (intro w99 hSw; (try dsimp only at hSw); (try go_simp); (try with_reducible rfl); (try omega))
                      simp only [Act.put, List.setIfInBounds_toArray, List.set_cons_zero, List.set_cons_succ]
                      refine wpAnyH_take (i := 3) (oi := ⟨some 85, _, _, _, _, _⟩) (v := ?vh3_4) rfl (by kernel_rfl) (by kernel_rfl) (by kernel_rfl) (fun _ _ _ h => h) (Or.inl ⟨by kernel_rfl, ?hyh3_4⟩) (by assumption) ?resth3_4
                      case hyh3_4 => (intro w99 hSw; (try dsimp only at hSw); (try go_simp); (try with_reducible rfl); (try omega))
                      simp only [Act.put, List.setIfInBounds_toArray, List.set_cons_zero, List.set_cons_succ]
                      refine wpAnyH_take (i := 5) (oi := ⟨some 87, _, _, _, _, _⟩) (v := ?vh3_5) rfl (by kernel_rfl) (by kernel_rfl) (by kernel_rfl) (fun _ _ _ h => h) (Or.inl ⟨by kernel_rfl, ?hyh3_5⟩) (by assumption) ?resth3_5
                      case hyh3_5 => (intro w99 hSw; (try dsimp only at hSw); (try go_simp); (try with_reducible rfl); (try omega))
                      simp only [Act.put, List.setIfInBounds_toArray, List.set_cons_zero, List.set_cons_succ]
                      refine wpAnyH_ready (rs := [4, 6]) (by kernel_rfl) (by simp) ?_
                      refine AllReadyH.cons (o := ⟨some 86, _, _, _, _, _⟩) rfl (fun KQ hKQ => ?w4h3_6) (AllReadyH.cons (o := ⟨some 88, _, _, _, _, _⟩) rfl (fun KQ hKQ => ?w6h3_6) AllReadyH.nil)
                      case w4h3_6 =>
                        go_simp
                        refine hKQ.out _ _ (fun i => hq6 i) (fun hHeld9 => ?_)
                        clear hKQ KQ hHeld
                        have hHeld := hHeld9
                        clear hHeld9
                        try simp only [Act.put, List.setIfInBounds_toArray, List.set_cons_zero, List.set_cons_succ]
                        refine wpAnyH_ready (rs := [6]) (by kernel_rfl) (by simp) ?_
                        refine AllReadyH.cons (o := ⟨some 88, _, _, _, _, _⟩) rfl (fun KQ hKQ => ?w6h3_7) AllReadyH.nil
                        case w6h3_7 =>
                          go_simp
                          refine hKQ.out _ _ (fun i => ((Q6.out.drew).alloc _).cell i) (fun hHeld9 => ?_)
                          clear hKQ KQ hHeld
                          have hHeld := hHeld9
                          clear hHeld9
                          try simp only [Act.put, List.setIfInBounds_toArray, List.set_cons_zero, List.set_cons_succ]
                          refine wpAnyH_ready (rs := [7]) (by kernel_rfl) (by simp) ?_
                          refine AllReadyH.cons (o := ⟨some 89, _, _, _, _, _⟩) rfl (fun KQ hKQ => ?w7h3_8) AllReadyH.nil
                          case w7h3_8 =>
                            refine step_app _ rfl (.tmp 86) (.tmp 88) 62 rfl elem_chg (by first | (simp [Act.eval]; done) | (simp [Act.eval]; rfl) | rfl) (CQ.out.x.row.drew.alloc _) (by first | (simp [Act.eval]; done) | (simp [Act.eval]; rfl) | rfl) (Rd.laid _ [.int .i64 cc.kind, .string (strOf cc.name), .string (strOf cc.dst), .pointer (some ⟨gn, 0, none⟩)] _) rfl (by simp [Value.oneCell']) hlen hby ?_
                            intro v8 w8 ho8 hk8 hr8
                            obtain ⟨A8, m8, c8, rfl⟩ := Own.form' ho8
                            have O8 := Lib.hid ho8
                            have K8 := Lib.hid hk8
                            have R8 := Lib.hid hr8
                            have Q8 := Lib.hid (((Q6.out.drew).alloc (.cells #[.int .i64 cc.kind, .string (strOf cc.name), .string (strOf cc.dst), .pointer (some ⟨gn, 0, none⟩)] 76)).kept hk8 (fun hm => QG.out (CQ.out.x.inr _ hm)))
                            have P8 := Lib.hid (((CQ.out.x.blk.drew).alloc (.cells #[.int .i64 cc.kind, .string (strOf cc.name), .string (strOf cc.dst), .pointer (some ⟨gn, 0, none⟩)] 76)).kept hk8 CQ.out.x.row_ne.1)
                            have hp8 := P8.out.cell
                            have hpf8 := P8.out.frozen
                            have hpl8 := P8.out.lt
                            clear ho8 hk8 hr8
                            refine hKQ.out _ _ (fun i => Q8.out.cell i) (fun hHeld9 => ?_)
                            clear hKQ KQ hHeld
                            have hHeld := hHeld9
                            clear hHeld9
                            try simp only [Act.put, List.setIfInBounds_toArray, List.set_cons_zero, List.set_cons_succ]
                            refine wpAnyH_take (i := 8) (oi := ⟨some 90, _, _, _, _, _⟩) (v := ?vh3_9) rfl (by kernel_rfl) (by kernel_rfl) (by kernel_rfl) (fun _ _ _ h => h) (Or.inl ⟨by kernel_rfl, ?hyh3_9⟩) (by assumption) ?resth3_9
                            case hyh3_9 => (intro w99 hSw; (try dsimp only at hSw); (try go_simp); (try with_reducible rfl); (try omega))
                            simp only [Act.put, List.setIfInBounds_toArray, List.set_cons_zero, List.set_cons_succ]
                            refine wpAnyH_take (i := 9) (oi := ⟨some 91, _, _, _, _, _⟩) (v := ?vh3_10) rfl (by kernel_rfl) (by kernel_rfl) (by kernel_rfl) (fun _ _ _ h => h) (Or.inl ⟨by kernel_rfl, ?hyh3_10⟩) (by assumption) ?resth3_10
                            case hyh3_10 => (intro w99 hSw; (try dsimp only at hSw); (try go_simp); (try with_reducible rfl); (try omega))
                            simp only [Act.put, List.setIfInBounds_toArray, List.set_cons_zero, List.set_cons_succ]
                            refine wpAnyH_ready (rs := [10]) (by kernel_rfl) (by simp) ?_
                            refine AllReadyH.cons (o := ⟨none, _, _, _, _, _⟩) rfl (fun KQ hKQ => ?w10h3_11) AllReadyH.nil
                            case w10h3_11 =>
                              go_simp
                              refine hKQ.out _ _ (fun i => (Q8.out.far (p := ⟨po, 3, none⟩) (fun e => QG.out (by rw [show wr.heap.size = po from e]; exact CQ.out.x.inp)) _).cell i) (fun hHeld9 => ?_)
                              clear hKQ KQ hHeld
                              have hHeld := hHeld9
                              clear hHeld9
                              try simp only [Act.put, List.setIfInBounds_toArray, List.set_cons_zero, List.set_cons_succ]
                              refine wpAnyH_done (by kernel_rfl) ?_ _
                              clear hHeld
                              have ho : Own w8 76 4 (.slice A8 m8 c8) (D'.ch ++ [(⟨cc.kind, cc.name, cc.dst, some jj⟩ : ChD)]).length (chsC fb2 (D'.ch ++ [(⟨cc.kind, cc.name, cc.dst, some jj⟩ : ChD)])) := by
                                have e1 : chsC fb2 [(⟨cc.kind, cc.name, cc.dst, some jj⟩ : ChD)] = [.int .i64 cc.kind, .string (strOf cc.name), .string (strOf cc.dst), .pointer (some ⟨gn, 0, none⟩)] := by
                                  show ([(⟨cc.kind, cc.name, cc.dst, some jj⟩ : ChD)].map (chC fb2)).flatten = _
                                  rw [List.map_cons, List.map_nil]
                                  simp [chC, PVE.out]
                                rw [chsC_app, e1, List.length_append]
                                exact O8.out
                              have hres := CQ.out.chPut HFB.out ((Kept.refl [] w6).drew.alloc _) K8.out ho R8.out (fun c3 h3 i h4 => by
                                rcases List.mem_append.1 h3 with h5 | h5
                                · exact CQ.out.cr c3 h5 i h4
                                · simp at h5; rw [h5] at h4; exact CFI.out i h4)
                              have HRES := Lib.hid hres.1
                              clear hres ho
                              go_wp2
                              go_roundg (D.ch.length - (j + 1))
                              case measure => omega
                              case rel => exact ⟨j + 1, _, idx2, fb2, A8, m8, c8, _, mt2, by omega, rfl, by go_num, HRES.out, PN2.out, PS2.out, by simp [CL.out], fun t c1 c2 h1 h2 => by
                                have h2' : (D'.ch ++ [(⟨cc.kind, cc.name, cc.dst, some jj⟩ : ChD)])[t]? = some c2 := h2
                                by_cases ht : t < D'.ch.length
                                · rw [List.getElem?_append_left ht] at h2'
                                  have := (CHR.out t c1 c2 h1 h2').ext (more := more)
                                  rw [← HMO.out] at this
                                  exact this
                                · have htl := (List.getElem?_eq_some_iff.1 h2').1
                                  rw [List.length_append, List.length_singleton] at htl
                                  have htj : t = j := by have := CL.out; omega
                                  subst htj
                                  rw [List.getElem?_append_right (by omega), CL.out, Nat.sub_self] at h2'
                                  simp at h2'
                                  rw [HCC.out] at h1
                                  injection h1 with h1
                                  rw [← h2', ← h1]
                                  exact RC.out⟩
                      case w6h3_6 =>
                        go_simp
                        refine hKQ.out _ _ (fun i => ((Q6.out.drew).alloc _).cell i) (fun hHeld9 => ?_)
                        clear hKQ KQ hHeld
                        have hHeld := hHeld9
                        clear hHeld9
                        try simp only [Act.put, List.setIfInBounds_toArray, List.set_cons_zero, List.set_cons_succ]
                        refine wpAnyH_ready (rs := [4]) (by kernel_rfl) (by simp) ?_
                        refine AllReadyH.cons (o := ⟨some 86, _, _, _, _, _⟩) rfl (fun KQ hKQ => ?w4h3_12) AllReadyH.nil
                        case w4h3_12 =>
                          go_simp
                          refine hKQ.out _ _ (fun i => ((Q6.out.drew).alloc _).cell i) (fun hHeld9 => ?_)
                          clear hKQ KQ hHeld
                          have hHeld := hHeld9
                          clear hHeld9
                          try simp only [Act.put, List.setIfInBounds_toArray, List.set_cons_zero, List.set_cons_succ]
                          refine wpAnyH_ready (rs := [7]) (by kernel_rfl) (by simp) ?_
                          refine AllReadyH.cons (o := ⟨some 89, _, _, _, _, _⟩) rfl (fun KQ hKQ => ?w7h3_13) AllReadyH.nil
                          case w7h3_13 =>
                            refine step_app _ rfl (.tmp 86) (.tmp 88) 62 rfl elem_chg (by first | (simp [Act.eval]; done) | (simp [Act.eval]; rfl) | rfl) (CQ.out.x.row.drew.alloc _) (by first | (simp [Act.eval]; done) | (simp [Act.eval]; rfl) | rfl) (Rd.laid _ [.int .i64 cc.kind, .string (strOf cc.name), .string (strOf cc.dst), .pointer (some ⟨gn, 0, none⟩)] _) rfl (by simp [Value.oneCell']) hlen hby ?_
                            intro v8 w8 ho8 hk8 hr8
                            obtain ⟨A8, m8, c8, rfl⟩ := Own.form' ho8
                            have O8 := Lib.hid ho8
                            have K8 := Lib.hid hk8
                            have R8 := Lib.hid hr8
                            have Q8 := Lib.hid (((Q6.out.drew).alloc (.cells #[.int .i64 cc.kind, .string (strOf cc.name), .string (strOf cc.dst), .pointer (some ⟨gn, 0, none⟩)] 76)).kept hk8 (fun hm => QG.out (CQ.out.x.inr _ hm)))
                            have P8 := Lib.hid (((CQ.out.x.blk.drew).alloc (.cells #[.int .i64 cc.kind, .string (strOf cc.name), .string (strOf cc.dst), .pointer (some ⟨gn, 0, none⟩)] 76)).kept hk8 CQ.out.x.row_ne.1)
                            have hp8 := P8.out.cell
                            have hpf8 := P8.out.frozen
                            have hpl8 := P8.out.lt
                            clear ho8 hk8 hr8
                            refine hKQ.out _ _ (fun i => Q8.out.cell i) (fun hHeld9 => ?_)
                            clear hKQ KQ hHeld
                            have hHeld := hHeld9
                            clear hHeld9
                            try simp only [Act.put, List.setIfInBounds_toArray, List.set_cons_zero, List.set_cons_succ]
                            refine wpAnyH_take (i := 8) (oi := ⟨some 90, _, _, _, _, _⟩) (v := ?vh3_14) rfl (by kernel_rfl) (by kernel_rfl) (by kernel_rfl) (fun _ _ _ h => h) (Or.inl ⟨by kernel_rfl, ?hyh3_14⟩) (by assumption) ?resth3_14
                            case hyh3_14 => (intro w99 hSw; (try dsimp only at hSw); (try go_simp); (try with_reducible rfl); (try omega))
                            simp only [Act.put, List.setIfInBounds_toArray, List.set_cons_zero, List.set_cons_succ]
                            refine wpAnyH_take (i := 9) (oi := ⟨some 91, _, _, _, _, _⟩) (v := ?vh3_15) rfl (by kernel_rfl) (by kernel_rfl) (by kernel_rfl) (fun _ _ _ h => h) (Or.inl ⟨by kernel_rfl, ?hyh3_15⟩) (by assumption) ?resth3_15
                            case hyh3_15 => (intro w99 hSw; (try dsimp only at hSw); (try go_simp); (try with_reducible rfl); (try omega))
                            simp only [Act.put, List.setIfInBounds_toArray, List.set_cons_zero, List.set_cons_succ]
                            refine wpAnyH_ready (rs := [10]) (by kernel_rfl) (by simp) ?_
                            refine AllReadyH.cons (o := ⟨none, _, _, _, _, _⟩) rfl (fun KQ hKQ => ?w10h3_16) AllReadyH.nil
                            case w10h3_16 =>
                              go_simp
                              refine hKQ.out _ _ (fun i => (Q8.out.far (p := ⟨po, 3, none⟩) (fun e => QG.out (by rw [show wr.heap.size = po from e]; exact CQ.out.x.inp)) _).cell i) (fun hHeld9 => ?_)
                              clear hKQ KQ hHeld
                              have hHeld := hHeld9
                              clear hHeld9
                              try simp only [Act.put, List.setIfInBounds_toArray, List.set_cons_zero, List.set_cons_succ]
                              refine wpAnyH_done (by kernel_rfl) ?_ _
                              clear hHeld
                              have ho : Own w8 76 4 (.slice A8 m8 c8) (D'.ch ++ [(⟨cc.kind, cc.name, cc.dst, some jj⟩ : ChD)]).length (chsC fb2 (D'.ch ++ [(⟨cc.kind, cc.name, cc.dst, some jj⟩ : ChD)])) := by
                                have e1 : chsC fb2 [(⟨cc.kind, cc.name, cc.dst, some jj⟩ : ChD)] = [.int .i64 cc.kind, .string (strOf cc.name), .string (strOf cc.dst), .pointer (some ⟨gn, 0, none⟩)] := by
                                  show ([(⟨cc.kind, cc.name, cc.dst, some jj⟩ : ChD)].map (chC fb2)).flatten = _
                                  rw [List.map_cons, List.map_nil]
                                  simp [chC, PVE.out]
                                rw [chsC_app, e1, List.length_append]
                                exact O8.out
                              have hres := CQ.out.chPut HFB.out ((Kept.refl [] w6).drew.alloc _) K8.out ho R8.out (fun c3 h3 i h4 => by
                                rcases List.mem_append.1 h3 with h5 | h5
                                · exact CQ.out.cr c3 h5 i h4
                                · simp at h5; rw [h5] at h4; exact CFI.out i h4)
                              have HRES := Lib.hid hres.1
                              clear hres ho
                              go_wp2
                              go_roundg (D.ch.length - (j + 1))
                              case measure => omega
                              case rel => exact ⟨j + 1, _, idx2, fb2, A8, m8, c8, _, mt2, by omega, rfl, by go_num, HRES.out, PN2.out, PS2.out, by simp [CL.out], fun t c1 c2 h1 h2 => by
                                have h2' : (D'.ch ++ [(⟨cc.kind, cc.name, cc.dst, some jj⟩ : ChD)])[t]? = some c2 := h2
                                by_cases ht : t < D'.ch.length
                                · rw [List.getElem?_append_left ht] at h2'
                                  have := (CHR.out t c1 c2 h1 h2').ext (more := more)
                                  rw [← HMO.out] at this
                                  exact this
                                · have htl := (List.getElem?_eq_some_iff.1 h2').1
                                  rw [List.length_append, List.length_singleton] at htl
                                  have htj : t = j := by have := CL.out; omega
                                  subst htj
                                  rw [List.getElem?_append_right (by omega), CL.out, Nat.sub_self] at h2'
                                  simp at h2'
                                  rw [HCC.out] at h1
                                  injection h1 with h1
                                  rw [← h2', ← h1]
                                  exact RC.out⟩
                  · obtain rfl : j = D.ch.length := by omega
                    have i1 : ¬ (D.ch.length : Int) < (D.ch.length : Int) := by omega
                    go_wp2
                    go_ret
                    exact ⟨po, G', D', idx, rfl, ⟨_, _, _, _, _, _, CP.out.x⟩, CP.out.k, fun k hk => (CP.out.g k hk).1, ⟨CP.out.nd, CP.out.il, CP.out.fl, CP.out.ff, PN.out, PS.out, CP.out.nr, CP.out.sr, CL.out, CHR.out, CP.out.q1⟩⟩
              · intro x qi left' w2 hp hrg2 hk2 hs2 hen
                have qin : (x, qi) ∈ D.sur := by
                  have h1 := PS.out
                  exact h1.mem_iff.2 (List.mem_append_right _ (hp.mem_iff.2 List.mem_cons_self))
                have hqi : qi < D.files.length := IV.out.ok.sur _ qin
                obtain ⟨f, hf⟩ : ∃ f, D.files[qi]? = some f := ⟨_, List.getElem?_eq_getElem hqi⟩
                have FL := Lib.hid (IV.out.ok.sure f (List.mem_of_getElem? hf)).2
                have CP2 := Lib.hid (CP.out.far hk2 RBG.out (by have := RB.out; omega) (by have := RB.out; omega) RB.out.2.2 (fun q hq e => by
                  obtain ⟨i, hi, e2⟩ := CP.out.mkk q hq
                  rw [e] at e2
                  injection e2 with e2
                  have h1 := HFB.out i hi
                  have h2 := RB.out.2.2
                  omega))
                have R2 := Lib.hid hrg2
                have RLT := Lib.hid hrg2.lt
                have HP := Lib.hid hp
                have HFI := Lib.hid hf
                have HE : (Instr.entry (.pointer (some ⟨rb, 0, none⟩))).run Try.prog w2 = .ok (.tuple #[.string (strOf x), .pointer (some ⟨fbA fb qi, 0, none⟩)]) w2 := hen
                have e1 : ekS x = .string (strOf x) := rfl
                have e2 : evF fb qi = .pointer (some ⟨fbA fb qi, 0, none⟩) := rfl
                rw [e1, e2]
                have XW := Lib.hid (XD.out.go CP2.out.k)
                obtain ⟨AF, cF, _, _, hFb, hFo, _⟩ := (XW.out.fs).get hf
                have FBK := Lib.hid hFb
                have FOW := Lib.hid hFo
                clear hp hrg2 hk2 hs2 hen e1 e2 hf hFb hFo qin
                go_upto_region 13 with fail
                have hpo2 := CP2.out.x.blk.cell
                clear HE
                refine wp_region_held_drew (S := (fun w' => ∀ i, w'.cell? ⟨po, i, none⟩ = (#[.int .i64 D'.quota, .map (some nb), .map (some sb), .slice A' m' c', .int .i64 D'.ops, .int .i64 D'.fail] : Array Value)[i]?)) (by kernel_rfl) (fun i => hpo2 i) (fun hHeld => ?_)
                refine wpAnyH_take (i := 0) (oi := ⟨some 60, _, _, _, _, _⟩) (v := ?vh4_1) rfl (by kernel_rfl) (by kernel_rfl) (by kernel_rfl) (fun _ _ _ h => h) (Or.inl ⟨by kernel_rfl, ?hyh4_1⟩) (by assumption) ?resth4_1
                case hyh4_1 => (intro w99 hSw; (try dsimp only at hSw); (try go_simp); (try with_reducible rfl); (try omega))
                simp only [Act.put, List.setIfInBounds_toArray, List.set_cons_zero, List.set_cons_succ]
                refine wpAnyH_take (i := 1) (oi := ⟨some 61, _, _, _, _, _⟩) (v := ?vh4_2) rfl (by kernel_rfl) (by kernel_rfl) (by kernel_rfl) (fun _ _ _ h => h) (Or.inl ⟨by kernel_rfl, ?hyh4_2⟩) (by assumption) ?resth4_2
                case hyh4_2 => (intro w99 hSw; (try dsimp only at hSw); (try go_simp); (try with_reducible rfl); (try omega))
                simp only [Act.put, List.setIfInBounds_toArray, List.set_cons_zero, List.set_cons_succ]
                refine wpAnyH_take (i := 2) (oi := ⟨some 62, _, _, _, _, _⟩) (v := ?vh4_3) rfl (by kernel_rfl) (by kernel_rfl) (by kernel_rfl) (fun _ _ _ h => h) (Or.inl ⟨by kernel_rfl, ?hyh4_3⟩) (by assumption) ?resth4_3
                case hyh4_3 => (intro w99 hSw; (try dsimp only at hSw); (try go_simp); (try with_reducible rfl); (try omega))
                simp only [Act.put, List.setIfInBounds_toArray, List.set_cons_zero, List.set_cons_succ]
                refine wpAnyH_take (i := 3) (oi := ⟨some 63, _, _, _, _, _⟩) (v := ?vh4_4) rfl (by kernel_rfl) (by kernel_rfl) (by kernel_rfl) (fun _ _ _ h => h) (Or.inl ⟨by kernel_rfl, ?hyh4_4⟩) (by assumption) ?resth4_4
                case hyh4_4 => (intro w99 hSw; (try dsimp only at hSw); (try go_simp); (try with_reducible rfl); (try omega))
                simp only [Act.put, List.setIfInBounds_toArray, List.set_cons_zero, List.set_cons_succ]
                refine wpAnyH_take (i := 4) (oi := ⟨some 64, _, _, _, _, _⟩) (v := ?vh4_5) rfl (by kernel_rfl) (by kernel_rfl) (by kernel_rfl) (fun _ _ _ h => h) (Or.inl ⟨by kernel_rfl, ?hyh4_5⟩) (by assumption) ?resth4_5
                case hyh4_5 => (intro w99 hSw; (try dsimp only at hSw); (try go_simp); (try with_reducible rfl); (try omega))
                simp only [Act.put, List.setIfInBounds_toArray, List.set_cons_zero, List.set_cons_succ]
                refine wpAnyH_take (i := 5) (oi := ⟨some 65, _, _, _, _, _⟩) (v := ?vh4_6) rfl (by kernel_rfl) (by kernel_rfl) (by kernel_rfl) (fun _ _ _ h => h) (Or.inl ⟨by kernel_rfl, ?hyh4_6⟩) (by assumption) ?resth4_6
                case hyh4_6 => (intro w99 hSw; (try dsimp only at hSw); (try go_simp); (try with_reducible rfl); (try omega))
                simp only [Act.put, List.setIfInBounds_toArray, List.set_cons_zero, List.set_cons_succ]
                refine wpAnyH_take (i := 6) (oi := ⟨some 66, _, _, _, _, _⟩) (v := ?vh4_7) rfl (by kernel_rfl) (by kernel_rfl) (by kernel_rfl) (fun _ _ _ h => h) (Or.inl ⟨by kernel_rfl, ?hyh4_7⟩) (by assumption) ?resth4_7
                case hyh4_7 => (intro w99 hSw; (try dsimp only at hSw); (try go_simp); (try with_reducible rfl); (try omega))
                simp only [Act.put, List.setIfInBounds_toArray, List.set_cons_zero, List.set_cons_succ]
                refine wpAnyH_ready (rs := [7]) (by kernel_rfl) (by simp) ?_
                refine AllReadyH.cons (o := ⟨some 67, _, _, _, _, _⟩) rfl (fun KQ hKQ => ?w7h4_8) AllReadyH.nil
                case w7h4_8 =>
                  go_simp
                  go_at_call 57
                  with_reducible refine (copied_any w2.drew ((CP2.out.go ((Kept.refl [] w2).drew)).v) (FBK.out.kept ((Kept.refl [] w2).drew) (by simp)) (FOW.out.kept ((Kept.refl [] w2).drew) (by simp)) FL.out).mono ?_
                  rintro e w3 ⟨gn, rfl, hpost⟩
                  obtain ⟨idx2, fb2, G2, mt2, fs2, j, hcp, hj, hgn, ⟨more, hmore⟩, hsub, hnew, hk3⟩ := (CP2.out.go ((Kept.refl [] w2).drew)).copied ((XW.out.go ((Kept.refl [] w2).drew)).fs) HFI.out hpost
                  have CP3 := Lib.hid hcp
                  have HJ := Lib.hid hj
                  have HMO := Lib.hid hmore
                  have HGN := Lib.hid hgn
                  have HNW := Lib.hid hnew
                  have RBG2 := Lib.hid (show rb ∉ G2 from fun hm => by
                    rcases hnew rb hm with h1 | h1
                    · exact RBG.out h1
                    · have h2 := RLT.out
                      have h3 : w2.drew.heap.size = w2.heap.size := rfl
                      omega)
                  have R3 := Lib.hid ((R2.out.kept ((Kept.refl [] w2).drew) (by simp) (by simp)).kept hk3 (by have h1 := BNL.out; have h2 := VT.out; simp; omega) (by have h1 := RB.out; simp; omega))
                  clear hcp hj hmore hgn hnew hsub hk3 hpost
                  go_wp2_with fail
                  refine hKQ.out _ _ (fun i => CP3.out.x.blk.cell i) (fun hHeld9 => ?_)
                  clear hKQ KQ hHeld
                  have hHeld := hHeld9
                  clear hHeld9
                  try simp only [Act.put, List.setIfInBounds_toArray, List.set_cons_zero, List.set_cons_succ]
                  refine wpAnyH_ready (rs := [8]) (by kernel_rfl) (by simp) ?_
                  refine AllReadyH.cons (o := ⟨none, _, _, _, _, _⟩) rfl (fun KQ hKQ => ?w8h4_9) AllReadyH.nil
                  case w8h4_9 =>
                    obtain ⟨w4, hrun, hm4, hk4⟩ := CP3.out.x.sur.put ekS_fam Try.underlying61 x j
                    have hrun' : (Instr.mapUpdate 61 (.map (some sb)) (.string (strOf x)) (.pointer (some ⟨gn, 0, none⟩))).run Try.prog w3 = .ok () w4 := by rw [HGN.out]; exact hrun
                    have PS2 := Lib.hid (cp_step (x := x) PS.out IV.out.ok.ns HP.out CP2.out.sr HMO.out HJ.out)
                    have CP4 := Lib.hid (CP3.out.surPut HFB.out hk4 hm4 PS2.out.2)
                    have R4 := Lib.hid (R3.out.kept hk4 (by have h1 := BNL.out; have h2 := (CP3.out.g _ CP3.out.x.ins).1; simp; omega) (fun hm => RBG2.out (by simp at hm; rw [hm]; exact CP3.out.x.ins)))
                    clear hrun hm4 hk4
                    go_simp
                    refine hKQ.out _ _ (fun i => CP4.out.x.blk.cell i) (fun hHeld9 => ?_)
                    clear hKQ KQ hHeld
                    have hHeld := hHeld9
                    clear hHeld9
                    try simp only [Act.put, List.setIfInBounds_toArray, List.set_cons_zero, List.set_cons_succ]
                    refine wpAnyH_done (by kernel_rfl) ?_ _
                    clear hHeld
                    go_wp2
                    go_roundg left'.length
                    case measure => have h1 := HP.out.length_eq; simp at h1; omega
                    case rel => exact ⟨left', { D' with files := fs2, sur := putM D'.sur x j }, idx2, fb2, A', m', c', G2, mt2, rfl, CP4.out, R4.out, RBG2.out, by have h1 := PN.out; rw [HMO.out, pk_ext CP2.out.nr]; exact h1, PS2.out.1, DC.out⟩
          · intro x qi left' w2 hp hrg2 hk2 hs2 hen
            have qin : (x, qi) ∈ D.now := by
              have h1 := PN.out
              exact h1.mem_iff.2 (List.mem_append_right _ (hp.mem_iff.2 List.mem_cons_self))
            have hqi : qi < D.files.length := IV.out.ok.now _ qin
            obtain ⟨f, hf⟩ : ∃ f, D.files[qi]? = some f := ⟨_, List.getElem?_eq_getElem hqi⟩
            have FL := Lib.hid (IV.out.ok.sure f (List.mem_of_getElem? hf)).2
            have CP2 := Lib.hid (CP.out.far hk2 RBG.out (by have := RB.out; omega) (by have := RB.out; omega) RB.out.2.2 (fun q hq e => by
              obtain ⟨i, hi, e2⟩ := CP.out.mkk q hq
              rw [e] at e2
              injection e2 with e2
              have h1 := HFB.out i hi
              have h2 := RB.out.2.2
              omega))
            have R2 := Lib.hid hrg2
            have RLT := Lib.hid hrg2.lt
            have HP := Lib.hid hp
            have HFI := Lib.hid hf
            have HE : (Instr.entry (.pointer (some ⟨rb, 0, none⟩))).run Try.prog w2 = .ok (.tuple #[.string (strOf x), .pointer (some ⟨fbA fb qi, 0, none⟩)]) w2 := hen
            have e1 : ekS x = .string (strOf x) := rfl
            have e2 : evF fb qi = .pointer (some ⟨fbA fb qi, 0, none⟩) := rfl
            rw [e1, e2]
            have XW := Lib.hid (XD.out.go CP2.out.k)
            obtain ⟨AF, cF, _, _, hFb, hFo, _⟩ := (XW.out.fs).get hf
            have FBK := Lib.hid hFb
            have FOW := Lib.hid hFo
            clear hp hrg2 hk2 hs2 hen e1 e2 hf hFb hFo qin
            go_upto_region 9 with fail
            have hpo2 := CP2.out.x.blk.cell
            clear HE
            refine wp_region_held_drew (S := (fun w' => ∀ i, w'.cell? ⟨po, i, none⟩ = (#[.int .i64 D'.quota, .map (some nb), .map (some sb), .slice A' m' c', .int .i64 D'.ops, .int .i64 D'.fail] : Array Value)[i]?)) (by kernel_rfl) (fun i => hpo2 i) (fun hHeld => ?_)
            refine wpAnyH_take (i := 0) (oi := ⟨some 42, _, _, _, _, _⟩) (v := ?vh5_1) rfl (by kernel_rfl) (by kernel_rfl) (by kernel_rfl) (fun _ _ _ h => h) (Or.inl ⟨by kernel_rfl, ?hyh5_1⟩) (by assumption) ?resth5_1
            case hyh5_1 => (intro w99 hSw; (try dsimp only at hSw); (try go_simp); (try with_reducible rfl); (try omega))
            simp only [Act.put, List.setIfInBounds_toArray, List.set_cons_zero, List.set_cons_succ]
            refine wpAnyH_take (i := 1) (oi := ⟨some 43, _, _, _, _, _⟩) (v := ?vh5_2) rfl (by kernel_rfl) (by kernel_rfl) (by kernel_rfl) (fun _ _ _ h => h) (Or.inl ⟨by kernel_rfl, ?hyh5_2⟩) (by assumption) ?resth5_2
            case hyh5_2 => (intro w99 hSw; (try dsimp only at hSw); (try go_simp); (try with_reducible rfl); (try omega))
            simp only [Act.put, List.setIfInBounds_toArray, List.set_cons_zero, List.set_cons_succ]
            refine wpAnyH_take (i := 2) (oi := ⟨some 44, _, _, _, _, _⟩) (v := ?vh5_3) rfl (by kernel_rfl) (by kernel_rfl) (by kernel_rfl) (fun _ _ _ h => h) (Or.inl ⟨by kernel_rfl, ?hyh5_3⟩) (by assumption) ?resth5_3
            case hyh5_3 => (intro w99 hSw; (try dsimp only at hSw); (try go_simp); (try with_reducible rfl); (try omega))
            simp only [Act.put, List.setIfInBounds_toArray, List.set_cons_zero, List.set_cons_succ]
            refine wpAnyH_take (i := 3) (oi := ⟨some 45, _, _, _, _, _⟩) (v := ?vh5_4) rfl (by kernel_rfl) (by kernel_rfl) (by kernel_rfl) (fun _ _ _ h => h) (Or.inl ⟨by kernel_rfl, ?hyh5_4⟩) (by assumption) ?resth5_4
            case hyh5_4 => (intro w99 hSw; (try dsimp only at hSw); (try go_simp); (try with_reducible rfl); (try omega))
            simp only [Act.put, List.setIfInBounds_toArray, List.set_cons_zero, List.set_cons_succ]
            refine wpAnyH_take (i := 4) (oi := ⟨some 46, _, _, _, _, _⟩) (v := ?vh5_5) rfl (by kernel_rfl) (by kernel_rfl) (by kernel_rfl) (fun _ _ _ h => h) (Or.inl ⟨by kernel_rfl, ?hyh5_5⟩) (by assumption) ?resth5_5
            case hyh5_5 => (intro w99 hSw; (try dsimp only at hSw); (try go_simp); (try with_reducible rfl); (try omega))
            simp only [Act.put, List.setIfInBounds_toArray, List.set_cons_zero, List.set_cons_succ]
            refine wpAnyH_take (i := 5) (oi := ⟨some 47, _, _, _, _, _⟩) (v := ?vh5_6) rfl (by kernel_rfl) (by kernel_rfl) (by kernel_rfl) (fun _ _ _ h => h) (Or.inl ⟨by kernel_rfl, ?hyh5_6⟩) (by assumption) ?resth5_6
            case hyh5_6 => (intro w99 hSw; (try dsimp only at hSw); (try go_simp); (try with_reducible rfl); (try omega))
            simp only [Act.put, List.setIfInBounds_toArray, List.set_cons_zero, List.set_cons_succ]
            refine wpAnyH_take (i := 6) (oi := ⟨some 48, _, _, _, _, _⟩) (v := ?vh5_7) rfl (by kernel_rfl) (by kernel_rfl) (by kernel_rfl) (fun _ _ _ h => h) (Or.inl ⟨by kernel_rfl, ?hyh5_7⟩) (by assumption) ?resth5_7
            case hyh5_7 => (intro w99 hSw; (try dsimp only at hSw); (try go_simp); (try with_reducible rfl); (try omega))
            simp only [Act.put, List.setIfInBounds_toArray, List.set_cons_zero, List.set_cons_succ]
            refine wpAnyH_ready (rs := [7]) (by kernel_rfl) (by simp) ?_
            refine AllReadyH.cons (o := ⟨some 49, _, _, _, _, _⟩) rfl (fun KQ hKQ => ?w7h5_8) AllReadyH.nil
            case w7h5_8 =>
              go_simp
              go_at_call 57
              with_reducible refine (copied_any w2.drew ((CP2.out.go ((Kept.refl [] w2).drew)).v) (FBK.out.kept ((Kept.refl [] w2).drew) (by simp)) (FOW.out.kept ((Kept.refl [] w2).drew) (by simp)) FL.out).mono ?_
              rintro e w3 ⟨gn, rfl, hpost⟩
              obtain ⟨idx2, fb2, G2, mt2, fs2, j, hcp, hj, hgn, ⟨more, hmore⟩, hsub, hnew, hk3⟩ := (CP2.out.go ((Kept.refl [] w2).drew)).copied ((XW.out.go ((Kept.refl [] w2).drew)).fs) HFI.out hpost
              have CP3 := Lib.hid hcp
              have HJ := Lib.hid hj
              have HMO := Lib.hid hmore
              have HGN := Lib.hid hgn
              have HNW := Lib.hid hnew
              have RBG2 := Lib.hid (show rb ∉ G2 from fun hm => by
                rcases hnew rb hm with h1 | h1
                · exact RBG.out h1
                · have h2 := RLT.out
                  have h3 : w2.drew.heap.size = w2.heap.size := rfl
                  omega)
              have R3 := Lib.hid ((R2.out.kept ((Kept.refl [] w2).drew) (by simp) (by simp)).kept hk3 (by have h1 := BNL.out; have h2 := VT.out; simp; omega) (by have h1 := RB.out; simp; omega))
              clear hcp hj hmore hgn hnew hsub hk3 hpost
              go_wp2_with fail
              refine hKQ.out _ _ (fun i => CP3.out.x.blk.cell i) (fun hHeld9 => ?_)
              clear hKQ KQ hHeld
              have hHeld := hHeld9
              clear hHeld9
              try simp only [Act.put, List.setIfInBounds_toArray, List.set_cons_zero, List.set_cons_succ]
              refine wpAnyH_ready (rs := [8]) (by kernel_rfl) (by simp) ?_
              refine AllReadyH.cons (o := ⟨none, _, _, _, _, _⟩) rfl (fun KQ hKQ => ?w8h5_9) AllReadyH.nil
              case w8h5_9 =>
                obtain ⟨w4, hrun, hm4, hk4⟩ := CP3.out.x.now.put ekS_fam Try.underlying61 x j
                have hrun' : (Instr.mapUpdate 61 (.map (some nb)) (.string (strOf x)) (.pointer (some ⟨gn, 0, none⟩))).run Try.prog w3 = .ok () w4 := by rw [HGN.out]; exact hrun
                have PS2 := Lib.hid (cp_step (x := x) PN.out IV.out.ok.nn HP.out CP2.out.nr HMO.out HJ.out)
                have CP4 := Lib.hid (CP3.out.nowPut HFB.out hk4 hm4 PS2.out.2)
                have R4 := Lib.hid (R3.out.kept hk4 (by have h1 := BNL.out; have h2 := (CP3.out.g _ CP3.out.x.inn).1; simp; omega) (fun hm => RBG2.out (by simp at hm; rw [hm]; exact CP3.out.x.inn)))
                clear hrun hm4 hk4
                go_simp
                refine hKQ.out _ _ (fun i => CP4.out.x.blk.cell i) (fun hHeld9 => ?_)
                clear hKQ KQ hHeld
                have hHeld := hHeld9
                clear hHeld9
                try simp only [Act.put, List.setIfInBounds_toArray, List.set_cons_zero, List.set_cons_succ]
                refine wpAnyH_done (by kernel_rfl) ?_ _
                clear hHeld
                go_wp2
                go_roundg left'.length
                case measure => have h1 := HP.out.length_eq; simp at h1; omega
                case rel => exact ⟨left', { D' with files := fs2, now := putM D'.now x j }, idx2, fb2, A', m', c', G2, mt2, rfl, CP4.out, R4.out, RBG2.out, PS2.out.1, DS.out, DC.out⟩
  case w5h1_13 =>
    go_simp
    refine hKQ.out _ _ (fun i => ((XD.out.go K1.out).blk.drew.alloc (.map #[] 0)).cell i) (fun hHeld9 => ?_)
    clear hKQ KQ hHeld
    have hHeld := hHeld9
    clear hHeld9
    try simp only [Act.put, List.setIfInBounds_toArray, List.set_cons_zero, List.set_cons_succ]
    refine wpAnyH_ready (rs := [4]) (by kernel_rfl) (by simp) ?_
    refine AllReadyH.cons (o := ⟨some 20, _, _, _, _, _⟩) rfl (fun KQ hKQ => ?w4h1_18) AllReadyH.nil
    case w4h1_18 =>
      go_simp
      refine hKQ.out _ _ (fun i => (((XD.out.go K1.out).blk.drew.alloc (.map #[] 0)).alloc (.map #[] 0)).cell i) (fun hHeld9 => ?_)
      clear hKQ KQ hHeld
      have hHeld := hHeld9
      clear hHeld9
      try simp only [Act.put, List.setIfInBounds_toArray, List.set_cons_zero, List.set_cons_succ]
      refine wpAnyH_take (i := 14) (oi := ⟨some 30, _, _, _, _, _⟩) (v := ?vh1_19) rfl (by kernel_rfl) (by kernel_rfl) (by kernel_rfl) (fun _ _ _ h => h) (Or.inl ⟨by kernel_rfl, ?hyh1_19⟩) (by assumption) ?resth1_19
      case hyh1_19 => (intro w99 hSw; (try dsimp only at hSw); (try go_simp); (try with_reducible rfl); (try omega))
      simp only [Act.put, List.setIfInBounds_toArray, List.set_cons_zero, List.set_cons_succ]
      refine wpAnyH_ready (rs := [15]) (by kernel_rfl) (by simp) ?_
      refine AllReadyH.cons (o := ⟨some 31, _, _, _, _, _⟩) rfl (fun KQ hKQ => ?w15h1_20) AllReadyH.nil
      case w15h1_20 =>
        go_simp
        refine hKQ.out _ _ (fun i => ((((XD.out.go K1.out).blk.drew.alloc (.map #[] 0)).alloc (.map #[] 0)).alloc _).cell i) (fun hHeld9 => ?_)
        clear hKQ KQ hHeld
        have hHeld := hHeld9
        clear hHeld9
        try simp only [Act.put, List.setIfInBounds_toArray, List.set_cons_zero, List.set_cons_succ]
        refine wpAnyH_take (i := 16) (oi := ⟨some 5, _, _, _, _, _⟩) (v := ?vh1_21) rfl (by kernel_rfl) (by kernel_rfl) (by kernel_rfl) (fun _ _ _ h => h) (Or.inl ⟨by kernel_rfl, ?hyh1_21⟩) (by assumption) ?resth1_21
        case hyh1_21 => (intro w99 hSw; (try dsimp only at hSw); (try go_simp); (try with_reducible rfl); (try omega))
        simp only [Act.put, List.setIfInBounds_toArray, List.set_cons_zero, List.set_cons_succ]
        refine wpAnyH_done (by kernel_rfl) ?_ _
        clear hHeld
        have CP := Lib.hid (cp_start (w5 := ((w1.drew.alloc (.map #[] 0)).alloc (.map #[] 0)).alloc (.cells #[.int .i64 D.quota, .map (some (w1.heap.size + 1)), .map (some (w1.heap.size)), .slice none 0 0, .int .i64 D.ops, .int .i64 D.fail] 64)) (nb := w1.heap.size + 1) (sb := w1.heap.size) (po := w1.heap.size + 1 + 1) (fb := fb) (D := D) K1.out ((((Kept.refl [] w1).drew.alloc _).alloc _).alloc _) V1.out T1.out (Blk.new' _ (by simp) _ _) ((by have := MapB.new (ek := ekS) (ev := evF []) (w1.drew.alloc (.map #[] 0)); simpa using this : MapB ekS (evF []) ((w1.drew.alloc (.map #[] 0)).alloc (.map #[] 0)) (w1.heap.size + 1) ([] : List (Bs × Nat))).alloc (.cells #[.int .i64 D.quota, .map (some (w1.heap.size + 1)), .map (some (w1.heap.size)), .slice none 0 0, .int .i64 D.ops, .int .i64 D.fail] 64)) (((MapB.new w1.drew).alloc (.map #[] 0)).alloc (.cells #[.int .i64 D.quota, .map (some (w1.heap.size + 1)), .map (some (w1.heap.size)), .slice none 0 0, .int .i64 D.ops, .int .i64 D.fail] 64)) (by omega) (by omega) (by omega) (by omega) VT.out.1 VT.out.2)
        clear hc1 hmm hu hu2
        go_upto_region 6 with fail
        obtain ⟨w5, hw5⟩ : ∃ w5, (((w1.drew.alloc (.map #[] 0)).alloc (.map #[] 0)).alloc (.cells #[.int .i64 D.quota, .map (some (w1.heap.size + 1)), .map (some (w1.heap.size)), .slice none 0 0, .int .i64 D.ops, .int .i64 D.fail] 64)) = w5 := ⟨_, rfl⟩
        rw [hw5] at CP
        (try (change Code.wp _ _ _ _ (((w1.drew.alloc (.map #[] 0)).alloc (.map #[] 0)).alloc (.cells #[.int .i64 D.quota, .map (some (w1.heap.size + 1)), .map (some (w1.heap.size)), .slice none 0 0, .int .i64 D.ops, .int .i64 D.fail] 64))))
        rw [hw5]
        obtain ⟨po, hpo⟩ : ∃ po, w1.heap.size + 1 + 1 = po := ⟨_, rfl⟩
        rw [hpo] at CP
        simp only [hpo]
        obtain ⟨nb, hmb⟩ : ∃ mb, w1.heap.size + 1 = mb := ⟨_, rfl⟩
        rw [hmb] at CP
        simp only [hmb]
        obtain ⟨sb, hlb⟩ : ∃ lb, w1.heap.size = lb := ⟨_, rfl⟩
        rw [hlb] at CP
        simp only [hlb]
        clear hw5 hlb hmb hpo V1 T1 K1
        have hpc := (XD.out.go CP.out.k).blk.cell
        obtain ⟨rb, hrb⟩ : ∃ rb, w5.heap.size = rb := ⟨_, rfl⟩
        go_wp2_with (first
          | (at_range
             refine wpList_rangeM _ rfl _ 61 rfl Try.underlying61 rfl (XD.out.go CP.out.k).now ?_
             intro wR hrR hkR hsR
             have RR := Lib.hid hrR
             have CR := Lib.hid (CP.out.go hkR)
             have RL := Lib.hid (CP.out.x.lt)
             have RB := Lib.hid (show vb < w5.heap.size ∧ tb < w5.heap.size ∧ w.heap.size ≤ w5.heap.size from ⟨CP.out.v.var.lt, CP.out.v.map.lt, CP.out.k.size⟩)
             clear hrR hkR hsR))
        simp only [hrb] at RR RB
        simp only [hrb]
        have RBG := Lib.hid (show rb ∉ [nb, sb, po] from fun hm => by have := RL.out rb hm; omega)
        clear hrb hpc RL
        go_frame
        go_loopg [6] D.now.length (fun gg s wr => ∃ (left : List (Bs × Nat)) (D' : DkD) (idx fb' : List Nat) (A' : Option Addr) (m' c' : Nat) (G' : List Nat) (mt : List (Option Nat × Nat)), gg = left.length ∧ CpI w wr vb tb po fb D D' idx fb' nb sb A' m' c' G' mt ∧ Rng ekS (evF fb) wr bn rb D.now left ∧ rb ∉ G' ∧ D.now.Perm (D'.now.map (pk idx) ++ left) ∧ D'.sur = [] ∧ D'.ch = [])
        case atStart => exact ⟨D.now, _, [], [], none, 0, 0, _, _, rfl, CR.out, RR.out, RBG.out, by simp, rfl, rfl⟩
        case round =>
          clear CP CR RR RBG
          obtain ⟨left, D', idx, fb', A', m', c', G', mt, rfl, hcp, hrg, hrbG, hpn, hds, hdc⟩ := hrel
          have CP := Lib.hid hcp
          have RG := Lib.hid hrg
          have RBG := Lib.hid hrbG
          have PN := Lib.hid hpn
          have DS := Lib.hid hds
          have DC := Lib.hid hdc
          clear hcp hrg hrbG hpn hds hdc
          go_wp2_with (first
            | (at_next
               refine wpList_nextM _ rfl _ rfl rfl RG.out ?_ ?_))
          · intro hl0
            subst hl0
            have PN1 := Lib.hid (show D.now.Perm (D'.now.map (pk idx)) by have h1 := PN.out; rw [List.append_nil] at h1; exact h1)
            clear PN RG RBG RB
            have hpc := (XD.out.go CP.out.k).blk.cell
            obtain ⟨rb, hrb⟩ : ∃ rb, wr.heap.size = rb := ⟨_, rfl⟩
            go_wp2_with (first
              | (at_range
                 refine wpList_rangeM _ rfl _ 61 rfl Try.underlying61 rfl (XD.out.go CP.out.k).sur ?_
                 intro wR hrR hkR hsR
                 have RR := Lib.hid hrR
                 have CR := Lib.hid (CP.out.go hkR)
                 have RL := Lib.hid (CP.out.x.lt)
                 have RB := Lib.hid (show vb < wr.heap.size ∧ tb < wr.heap.size ∧ w.heap.size ≤ wr.heap.size from ⟨CP.out.v.var.lt, CP.out.v.map.lt, CP.out.k.size⟩)
                 clear hrR hkR hsR))
            simp only [hrb] at RR RB
            simp only [hrb]
            have RBG := Lib.hid (show rb ∉ G' from fun hm => by have := RL.out rb hm; omega)
            clear hrb hpc RL
            go_frame
            go_loopg [8] D.sur.length (fun gg s wr => ∃ (left : List (Bs × Nat)) (D' : DkD) (idx fb' : List Nat) (A' : Option Addr) (m' c' : Nat) (G' : List Nat) (mt : List (Option Nat × Nat)), gg = left.length ∧ CpI w wr vb tb po fb D D' idx fb' nb sb A' m' c' G' mt ∧ Rng ekS (evF fb) wr bs rb D.sur left ∧ rb ∉ G' ∧ D.now.Perm (D'.now.map (pk idx)) ∧ D.sur.Perm (D'.sur.map (pk idx) ++ left) ∧ D'.ch = [])
            case atStart => exact ⟨D.sur, D', idx, fb', A', m', c', G', mt, rfl, CR.out, RR.out, RBG.out, PN1.out, by rw [DS.out]; simp, DC.out⟩
            case round =>
              clear CP CR RR RBG PN1 DS DC
              obtain ⟨left, D', idx, fb', A', m', c', G', mt, rfl, hcp, hrg, hrbG, hpn, hps, hdc⟩ := hrel
              have CP := Lib.hid hcp
              have RG := Lib.hid hrg
              have RBG := Lib.hid hrbG
              have PN := Lib.hid hpn
              have PS := Lib.hid hps
              have DC := Lib.hid hdc
              clear hcp hrg hrbG hpn hps hdc
              go_wp2_with (first
                | (at_next
                   refine wpList_nextM _ rfl _ rfl rfl RG.out ?_ ?_))
              · intro hl0
                subst hl0
                have PS1 := Lib.hid (show D.sur.Perm (D'.sur.map (pk idx)) by have h1 := PS.out; rw [List.append_nil] at h1; exact h1)
                clear PS RG RBG RB
                have hpc := (XD.out.go CP.out.k).blk.cell
                go_wp2
                go_loopg [73] D.ch.length (fun gg i wr => ∃ (j : Nat) (D' : DkD) (idx fb' : List Nat) (A' : Option Addr) (m' c' : Nat) (G' : List Nat) (mt : List (Option Nat × Nat)), j ≤ D.ch.length ∧ gg = D.ch.length - j ∧ i = .int .i64 (j : Nat) ∧ CpI w wr vb tb po fb D D' idx fb' nb sb A' m' c' G' mt ∧ D.now.Perm (D'.now.map (pk idx)) ∧ D.sur.Perm (D'.sur.map (pk idx)) ∧ D'.ch.length = j ∧ ∀ (t : Nat) (c1 c2 : ChD), D.ch[t]? = some c1 → D'.ch[t]? = some c2 → ChR idx c1 c2)
                case atStart => exact ⟨0, D', idx, fb', A', m', c', G', mt, by omega, by omega, rfl, CP.out, PN.out, PS1.out, by rw [DC.out]; rfl, fun t c1 c2 h1 h2 => by rw [DC.out] at h2; simp at h2⟩
                case round =>
                  clear CP PN PS1 DC hpc
                  obtain ⟨j, D', idx, fb', A', m', c', G', mt, hj, rfl, rfl, hcp, hpn, hps, hcl, hchr⟩ := hrel
                  have CP := Lib.hid hcp
                  have PN := Lib.hid hpn
                  have PS := Lib.hid hps
                  have CL := Lib.hid hcl
                  have CHR := Lib.hid hchr
                  clear hcp hpn hps hcl hchr
                  by_cases hlt : j < D.ch.length
                  · obtain ⟨cc, hcc⟩ : ∃ cc, D.ch[j]? = some cc := ⟨_, List.getElem?_eq_getElem hlt⟩
                    have XW := Lib.hid (XD.out.go CP.out.k)
                    obtain ⟨g, rfl, hrow⟩ : ∃ g, A = some ⟨g, 0, none⟩ ∧ RowAt 76 4 (chC fb) wr g c D.ch := by
                      rcases RowAt.of_own (chC_len fb) (XW.out.row) rfl with ⟨_, h2⟩ | ⟨g, cap, h1, h2⟩
                      · rw [h2] at hcc; simp at hcc
                      · injection h1 with e1 e2 e3
                        subst e1 e3
                        exact ⟨g, rfl, h2⟩
                    have q0 := hrow.cell hcc (c := 0) (v := .int .i64 cc.kind) rfl
                    have q1 := hrow.cell hcc (c := 1) (v := .string (strOf cc.name)) rfl
                    have q2 := hrow.cell hcc (c := 2) (v := .string (strOf cc.dst)) rfl
                    have q3 := hrow.cell hcc (c := 3) (v := .pointer (cc.f.map fun i => ⟨fbA fb i, 0, none⟩)) rfl
                    rw [Nat.add_zero] at q0
                    have hgl := hrow.lt
                    have i0 : (0 : Int) ≤ (j : Int) := by omega
                    have i1 : (j : Int) < (D.ch.length : Int) := by omega
                    have iw : IntKind.i64.wrap ((j : Int) + 1) = (j : Int) + 1 := IntWalk.i64_in _ (by have := CHL.out; omega)
                    have HCC := Lib.hid hcc
                    have GLT := Lib.hid (CP.out.x.lt)
                    have TBL := Lib.hid (CP.out.v.map.lt)
                    have VBL := Lib.hid (CP.out.v.var.lt)
                    clear hrow hcc
                    cases hcf : cc.f with
                    | none =>
                      rw [hcf] at q3
                      simp only [Option.map_none] at q3
                      have HCF := Lib.hid hcf
                      clear hcf
                      go_upto_region 18 with (first
                        | (((with_reducible show wpList _ _ _ ({ dst := none, op := Op.store 76 (.tmp 11) (.tmp 76), type := _, pos := _, after := _, guard := _ } :: _) _ _); refine wpList_put (t := 76) rfl 76 (.tmp 11) (.tmp 76) rfl _ (by rfl) (by rfl) (by (repeat (first | (apply Blk.new'; simp; done) | apply Blk.alloc | apply Blk.drew))) (by rfl) (by kernel_rfl) (by simp [Value.oneCell']) ?_; intro w5 hb5 hk5; have Hb5 := Lib.hid hb5; have Hk5 := Lib.hid hk5; clear hb5 hk5)
                           have K5 := Lib.hid (((Kept.refl [] wr).alloc _).trans Hk5.out (fun i hi => .inr (by simp at hi; omega)) : Kept [] wr w5)
                           have hx5 := Hb5.out.cell
                           have hf5 := Hb5.out.frozen
                           have hl5 := Hb5.out.lt)
                        | (go_at_call 57
                           with_reducible refine (copied_none w5 ((CP.out.go K5.out).v)).mono ?_
                           rintro e wq ⟨rfl, rfl⟩))
                      have CQ := Lib.hid (show CpI w (wq.setCell ⟨wr.heap.size, 3, none⟩ (.pointer none)) vb tb po fb D { D' with files := D'.files } idx fb' nb sb A' m' c' G' mt from (CP.out.go K5.out).far ((Kept.refl [wr.heap.size] wq).setCell (p := ⟨wr.heap.size, 3, none⟩) (.inl (by simp)) _) (fun hm => by have := GLT.out _ hm; omega) (by have := VBL.out; omega) (by have := TBL.out; omega) CP.out.k.size (fun q hq e => by
                        obtain ⟨i, hi, e2⟩ := CP.out.mkk q hq
                        rw [e] at e2
                        injection e2 with e2
                        have h1 := HFB.out i hi
                        have h2 := CP.out.k.size
                        omega))
                      have Q6 := Lib.hid (show Blk (wq.setCell ⟨wr.heap.size, 3, none⟩ (.pointer none)) wr.heap.size 76 #[.int .i64 cc.kind, .string (strOf cc.name), .string (strOf cc.dst), .pointer none] from Hb5.out.set 3 _)
                      clear hx5 hf5 hl5 q0 q1 q2 q3
                      generalize wq.setCell ⟨wr.heap.size, 3, none⟩ (.pointer none) = w6 at *
                      have QG := Lib.hid (show wr.heap.size ∉ G' from fun hm => by have := GLT.out _ hm; omega)
                      obtain ⟨idx2, hi2⟩ : ∃ idx2, idx = idx2 := ⟨_, rfl⟩
                      obtain ⟨more, hmo⟩ : ∃ more, idx2 = idx ++ more := ⟨[], by rw [← hi2]; simp⟩
                      have HMO := Lib.hid hmo
                      obtain ⟨fb2, hf2⟩ : ∃ fb2, fb' = fb2 := ⟨_, rfl⟩
                      obtain ⟨mt2, hm2⟩ : ∃ mt2, mt = mt2 := ⟨_, rfl⟩
                      have PN2 := Lib.hid (show D.now.Perm (D'.now.map (pk idx2)) by rw [← hi2]; exact PN.out)
                      have PS2 := Lib.hid (show D.sur.Perm (D'.sur.map (pk idx2)) by rw [← hi2]; exact PS.out)
                      rw [hi2, hf2, hm2] at CQ
                      have RC := Lib.hid (show ChR idx2 cc ⟨cc.kind, cc.name, cc.dst, none⟩ from ⟨rfl, rfl, rfl, .inl ⟨HCF.out, rfl⟩⟩)
                      have CFI := Lib.hid (show ∀ i, (⟨cc.kind, cc.name, cc.dst, none⟩ : ChD).f = some i → i < idx2.length from fun i h => by cases h)
                      have PVE := Lib.hid (show True from trivial)
                      clear hi2 hmo hf2 hm2
                      have hq6 := Q6.out.cell
                      have hp6 := CQ.out.x.blk.cell
                      have hpa := (CQ.out.x.blk.alloc (.cells #[.int .i64 cc.kind, .string (strOf cc.name), .string (strOf cc.dst), .pointer none] 76)).cell
                      have hlen : D'.ch.length + 1 ≤ maxLen := by have h1 := CHL.out; have h2 := CL.out; unfold maxLen; omega
                      have hby : (D'.ch.length + 1) * 48 ≤ 140737488355328 := by have h1 := CHL.out; have h2 := CL.out; omega
                      go_upto_region 18 with fail
                      refine wp_region_held_drew (S := (fun w' => ∀ i, w'.cell? ⟨wr.heap.size, i, none⟩ = (#[.int .i64 cc.kind, .string (strOf cc.name), .string (strOf cc.dst), .pointer none] : Array Value)[i]?)) (by kernel_rfl) (fun i => hq6 i) (fun hHeld => ?_)
                      refine wpAnyH_take (i := 0) (oi := ⟨some 82, _, _, _, _, _⟩) (v := ?vh6_1) rfl (by kernel_rfl) (by kernel_rfl) (by kernel_rfl) (fun _ _ _ h => h) (Or.inl ⟨by kernel_rfl, ?hyh6_1⟩) (by assumption) ?resth6_1
                      case hyh6_1 => (intro w99 hSw; (try dsimp only at hSw); (try go_simp); (try with_reducible rfl); (try omega))
                      simp only [Act.put, List.setIfInBounds_toArray, List.set_cons_zero, List.set_cons_succ]
                      refine wpAnyH_take (i := 1) (oi := ⟨some 83, _, _, _, _, _⟩) (v := ?vh6_2) rfl (by kernel_rfl) (by kernel_rfl) (by kernel_rfl) (fun _ _ _ h => h) (Or.inl ⟨by kernel_rfl, ?hyh6_2⟩) (by assumption) ?resth6_2
                      case hyh6_2 => (intro w99 hSw; (try dsimp only at hSw); (try go_simp); (try with_reducible rfl); (try omega))
                      simp only [Act.put, List.setIfInBounds_toArray, List.set_cons_zero, List.set_cons_succ]
                      refine wpAnyH_take (i := 2) (oi := ⟨some 84, _, _, _, _, _⟩) (v := ?vh6_3) rfl (by kernel_rfl) (by kernel_rfl) (by kernel_rfl) (fun _ _ _ h => h) (Or.inl ⟨by kernel_rfl, ?hyh6_3⟩) (by assumption) ?resth6_3
                      case hyh6_3 => (intro w99 hSw; (try dsimp only at hSw); (try go_simp); (try with_reducible rfl); (try omega))
                      simp only [Act.put, List.setIfInBounds_toArray, List.set_cons_zero, List.set_cons_succ]
                      refine wpAnyH_take (i := 3) (oi := ⟨some 85, _, _, _, _, _⟩) (v := ?vh6_4) rfl (by kernel_rfl) (by kernel_rfl) (by kernel_rfl) (fun _ _ _ h => h) (Or.inl ⟨by kernel_rfl, ?hyh6_4⟩) (by assumption) ?resth6_4
                      case hyh6_4 => (intro w99 hSw; (try dsimp only at hSw); (try go_simp); (try with_reducible rfl); (try omega))
                      simp only [Act.put, List.setIfInBounds_toArray, List.set_cons_zero, List.set_cons_succ]
                      refine wpAnyH_take (i := 5) (oi := ⟨some 87, _, _, _, _, _⟩) (v := ?vh6_5) rfl (by kernel_rfl) (by kernel_rfl) (by kernel_rfl) (fun _ _ _ h => h) (Or.inl ⟨by kernel_rfl, ?hyh6_5⟩) (by assumption) ?resth6_5
                      case hyh6_5 => (intro w99 hSw; (try dsimp only at hSw); (try go_simp); (try with_reducible rfl); (try omega))
                      simp only [Act.put, List.setIfInBounds_toArray, List.set_cons_zero, List.set_cons_succ]
                      refine wpAnyH_ready (rs := [4, 6]) (by kernel_rfl) (by simp) ?_
                      refine AllReadyH.cons (o := ⟨some 86, _, _, _, _, _⟩) rfl (fun KQ hKQ => ?w4h6_6) (AllReadyH.cons (o := ⟨some 88, _, _, _, _, _⟩) rfl (fun KQ hKQ => ?w6h6_6) AllReadyH.nil)
                      case w4h6_6 =>
                        go_simp
                        refine hKQ.out _ _ (fun i => hq6 i) (fun hHeld9 => ?_)
                        clear hKQ KQ hHeld
                        have hHeld := hHeld9
                        clear hHeld9
                        try simp only [Act.put, List.setIfInBounds_toArray, List.set_cons_zero, List.set_cons_succ]
                        refine wpAnyH_ready (rs := [6]) (by kernel_rfl) (by simp) ?_
                        refine AllReadyH.cons (o := ⟨some 88, _, _, _, _, _⟩) rfl (fun KQ hKQ => ?w6h6_7) AllReadyH.nil
                        case w6h6_7 =>
                          go_simp
                          refine hKQ.out _ _ (fun i => ((Q6.out.drew).alloc _).cell i) (fun hHeld9 => ?_)
                          clear hKQ KQ hHeld
                          have hHeld := hHeld9
                          clear hHeld9
                          try simp only [Act.put, List.setIfInBounds_toArray, List.set_cons_zero, List.set_cons_succ]
                          refine wpAnyH_ready (rs := [7]) (by kernel_rfl) (by simp) ?_
                          refine AllReadyH.cons (o := ⟨some 89, _, _, _, _, _⟩) rfl (fun KQ hKQ => ?w7h6_8) AllReadyH.nil
                          case w7h6_8 =>
                            refine step_app _ rfl (.tmp 86) (.tmp 88) 62 rfl elem_chg (by first | (simp [Act.eval]; done) | (simp [Act.eval]; rfl) | rfl) (CQ.out.x.row.drew.alloc _) (by first | (simp [Act.eval]; done) | (simp [Act.eval]; rfl) | rfl) (Rd.laid _ [.int .i64 cc.kind, .string (strOf cc.name), .string (strOf cc.dst), .pointer none] _) rfl (by simp [Value.oneCell']) hlen hby ?_
                            intro v8 w8 ho8 hk8 hr8
                            obtain ⟨A8, m8, c8, rfl⟩ := Own.form' ho8
                            have O8 := Lib.hid ho8
                            have K8 := Lib.hid hk8
                            have R8 := Lib.hid hr8
                            have Q8 := Lib.hid (((Q6.out.drew).alloc (.cells #[.int .i64 cc.kind, .string (strOf cc.name), .string (strOf cc.dst), .pointer none] 76)).kept hk8 (fun hm => QG.out (CQ.out.x.inr _ hm)))
                            have P8 := Lib.hid (((CQ.out.x.blk.drew).alloc (.cells #[.int .i64 cc.kind, .string (strOf cc.name), .string (strOf cc.dst), .pointer none] 76)).kept hk8 CQ.out.x.row_ne.1)
                            have hp8 := P8.out.cell
                            have hpf8 := P8.out.frozen
                            have hpl8 := P8.out.lt
                            clear ho8 hk8 hr8
                            refine hKQ.out _ _ (fun i => Q8.out.cell i) (fun hHeld9 => ?_)
                            clear hKQ KQ hHeld
                            have hHeld := hHeld9
                            clear hHeld9
                            try simp only [Act.put, List.setIfInBounds_toArray, List.set_cons_zero, List.set_cons_succ]
                            refine wpAnyH_take (i := 8) (oi := ⟨some 90, _, _, _, _, _⟩) (v := ?vh6_9) rfl (by kernel_rfl) (by kernel_rfl) (by kernel_rfl) (fun _ _ _ h => h) (Or.inl ⟨by kernel_rfl, ?hyh6_9⟩) (by assumption) ?resth6_9
                            case hyh6_9 => (intro w99 hSw; (try dsimp only at hSw); (try go_simp); (try with_reducible rfl); (try omega))
                            simp only [Act.put, List.setIfInBounds_toArray, List.set_cons_zero, List.set_cons_succ]
                            refine wpAnyH_take (i := 9) (oi := ⟨some 91, _, _, _, _, _⟩) (v := ?vh6_10) rfl (by kernel_rfl) (by kernel_rfl) (by kernel_rfl) (fun _ _ _ h => h) (Or.inl ⟨by kernel_rfl, ?hyh6_10⟩) (by assumption) ?resth6_10
                            case hyh6_10 => (intro w99 hSw; (try dsimp only at hSw); (try go_simp); (try with_reducible rfl); (try omega))
                            simp only [Act.put, List.setIfInBounds_toArray, List.set_cons_zero, List.set_cons_succ]
                            refine wpAnyH_ready (rs := [10]) (by kernel_rfl) (by simp) ?_
                            refine AllReadyH.cons (o := ⟨none, _, _, _, _, _⟩) rfl (fun KQ hKQ => ?w10h6_11) AllReadyH.nil
                            case w10h6_11 =>
                              go_simp
                              refine hKQ.out _ _ (fun i => (Q8.out.far (p := ⟨po, 3, none⟩) (fun e => QG.out (by rw [show wr.heap.size = po from e]; exact CQ.out.x.inp)) _).cell i) (fun hHeld9 => ?_)
                              clear hKQ KQ hHeld
                              have hHeld := hHeld9
                              clear hHeld9
                              try simp only [Act.put, List.setIfInBounds_toArray, List.set_cons_zero, List.set_cons_succ]
                              refine wpAnyH_done (by kernel_rfl) ?_ _
                              clear hHeld
                              have ho : Own w8 76 4 (.slice A8 m8 c8) (D'.ch ++ [(⟨cc.kind, cc.name, cc.dst, none⟩ : ChD)]).length (chsC fb2 (D'.ch ++ [(⟨cc.kind, cc.name, cc.dst, none⟩ : ChD)])) := by
                                have e1 : chsC fb2 [(⟨cc.kind, cc.name, cc.dst, none⟩ : ChD)] = [.int .i64 cc.kind, .string (strOf cc.name), .string (strOf cc.dst), .pointer none] := by
                                  show ([(⟨cc.kind, cc.name, cc.dst, none⟩ : ChD)].map (chC fb2)).flatten = _
                                  rw [List.map_cons, List.map_nil]
                                  simp [chC]
                                rw [chsC_app, e1, List.length_append]
                                exact O8.out
                              have hres := CQ.out.chPut HFB.out ((Kept.refl [] w6).drew.alloc _) K8.out ho R8.out (fun c3 h3 i h4 => by
                                rcases List.mem_append.1 h3 with h5 | h5
                                · exact CQ.out.cr c3 h5 i h4
                                · simp at h5; rw [h5] at h4; exact CFI.out i h4)
                              have HRES := Lib.hid hres.1
                              clear hres ho
                              go_wp2
                              go_roundg (D.ch.length - (j + 1))
                              case measure => omega
                              case rel => exact ⟨j + 1, _, idx2, fb2, A8, m8, c8, _, mt2, by omega, rfl, by go_num, HRES.out, PN2.out, PS2.out, by simp [CL.out], fun t c1 c2 h1 h2 => by
                                have h2' : (D'.ch ++ [(⟨cc.kind, cc.name, cc.dst, none⟩ : ChD)])[t]? = some c2 := h2
                                by_cases ht : t < D'.ch.length
                                · rw [List.getElem?_append_left ht] at h2'
                                  have := (CHR.out t c1 c2 h1 h2').ext (more := more)
                                  rw [← HMO.out] at this
                                  exact this
                                · have htl := (List.getElem?_eq_some_iff.1 h2').1
                                  rw [List.length_append, List.length_singleton] at htl
                                  have htj : t = j := by have := CL.out; omega
                                  subst htj
                                  rw [List.getElem?_append_right (by omega), CL.out, Nat.sub_self] at h2'
                                  simp at h2'
                                  rw [HCC.out] at h1
                                  injection h1 with h1
                                  rw [← h2', ← h1]
                                  exact RC.out⟩
                      case w6h6_6 =>
                        go_simp
                        refine hKQ.out _ _ (fun i => ((Q6.out.drew).alloc _).cell i) (fun hHeld9 => ?_)
                        clear hKQ KQ hHeld
                        have hHeld := hHeld9
                        clear hHeld9
                        try simp only [Act.put, List.setIfInBounds_toArray, List.set_cons_zero, List.set_cons_succ]
                        refine wpAnyH_ready (rs := [4]) (by kernel_rfl) (by simp) ?_
                        refine AllReadyH.cons (o := ⟨some 86, _, _, _, _, _⟩) rfl (fun KQ hKQ => ?w4h6_12) AllReadyH.nil
                        case w4h6_12 =>
                          go_simp
                          refine hKQ.out _ _ (fun i => ((Q6.out.drew).alloc _).cell i) (fun hHeld9 => ?_)
                          clear hKQ KQ hHeld
                          have hHeld := hHeld9
                          clear hHeld9
                          try simp only [Act.put, List.setIfInBounds_toArray, List.set_cons_zero, List.set_cons_succ]
                          refine wpAnyH_ready (rs := [7]) (by kernel_rfl) (by simp) ?_
                          refine AllReadyH.cons (o := ⟨some 89, _, _, _, _, _⟩) rfl (fun KQ hKQ => ?w7h6_13) AllReadyH.nil
                          case w7h6_13 =>
                            refine step_app _ rfl (.tmp 86) (.tmp 88) 62 rfl elem_chg (by first | (simp [Act.eval]; done) | (simp [Act.eval]; rfl) | rfl) (CQ.out.x.row.drew.alloc _) (by first | (simp [Act.eval]; done) | (simp [Act.eval]; rfl) | rfl) (Rd.laid _ [.int .i64 cc.kind, .string (strOf cc.name), .string (strOf cc.dst), .pointer none] _) rfl (by simp [Value.oneCell']) hlen hby ?_
                            intro v8 w8 ho8 hk8 hr8
                            obtain ⟨A8, m8, c8, rfl⟩ := Own.form' ho8
                            have O8 := Lib.hid ho8
                            have K8 := Lib.hid hk8
                            have R8 := Lib.hid hr8
                            have Q8 := Lib.hid (((Q6.out.drew).alloc (.cells #[.int .i64 cc.kind, .string (strOf cc.name), .string (strOf cc.dst), .pointer none] 76)).kept hk8 (fun hm => QG.out (CQ.out.x.inr _ hm)))
                            have P8 := Lib.hid (((CQ.out.x.blk.drew).alloc (.cells #[.int .i64 cc.kind, .string (strOf cc.name), .string (strOf cc.dst), .pointer none] 76)).kept hk8 CQ.out.x.row_ne.1)
                            have hp8 := P8.out.cell
                            have hpf8 := P8.out.frozen
                            have hpl8 := P8.out.lt
                            clear ho8 hk8 hr8
                            refine hKQ.out _ _ (fun i => Q8.out.cell i) (fun hHeld9 => ?_)
                            clear hKQ KQ hHeld
                            have hHeld := hHeld9
                            clear hHeld9
                            try simp only [Act.put, List.setIfInBounds_toArray, List.set_cons_zero, List.set_cons_succ]
                            refine wpAnyH_take (i := 8) (oi := ⟨some 90, _, _, _, _, _⟩) (v := ?vh6_14) rfl (by kernel_rfl) (by kernel_rfl) (by kernel_rfl) (fun _ _ _ h => h) (Or.inl ⟨by kernel_rfl, ?hyh6_14⟩) (by assumption) ?resth6_14
                            case hyh6_14 => (intro w99 hSw; (try dsimp only at hSw); (try go_simp); (try with_reducible rfl); (try omega))
                            simp only [Act.put, List.setIfInBounds_toArray, List.set_cons_zero, List.set_cons_succ]
                            refine wpAnyH_take (i := 9) (oi := ⟨some 91, _, _, _, _, _⟩) (v := ?vh6_15) rfl (by kernel_rfl) (by kernel_rfl) (by kernel_rfl) (fun _ _ _ h => h) (Or.inl ⟨by kernel_rfl, ?hyh6_15⟩) (by assumption) ?resth6_15
                            case hyh6_15 => (intro w99 hSw; (try dsimp only at hSw); (try go_simp); (try with_reducible rfl); (try omega))
                            simp only [Act.put, List.setIfInBounds_toArray, List.set_cons_zero, List.set_cons_succ]
                            refine wpAnyH_ready (rs := [10]) (by kernel_rfl) (by simp) ?_
                            refine AllReadyH.cons (o := ⟨none, _, _, _, _, _⟩) rfl (fun KQ hKQ => ?w10h6_16) AllReadyH.nil
                            case w10h6_16 =>
                              go_simp
                              refine hKQ.out _ _ (fun i => (Q8.out.far (p := ⟨po, 3, none⟩) (fun e => QG.out (by rw [show wr.heap.size = po from e]; exact CQ.out.x.inp)) _).cell i) (fun hHeld9 => ?_)
                              clear hKQ KQ hHeld
                              have hHeld := hHeld9
                              clear hHeld9
                              try simp only [Act.put, List.setIfInBounds_toArray, List.set_cons_zero, List.set_cons_succ]
                              refine wpAnyH_done (by kernel_rfl) ?_ _
                              clear hHeld
                              have ho : Own w8 76 4 (.slice A8 m8 c8) (D'.ch ++ [(⟨cc.kind, cc.name, cc.dst, none⟩ : ChD)]).length (chsC fb2 (D'.ch ++ [(⟨cc.kind, cc.name, cc.dst, none⟩ : ChD)])) := by
                                have e1 : chsC fb2 [(⟨cc.kind, cc.name, cc.dst, none⟩ : ChD)] = [.int .i64 cc.kind, .string (strOf cc.name), .string (strOf cc.dst), .pointer none] := by
                                  show ([(⟨cc.kind, cc.name, cc.dst, none⟩ : ChD)].map (chC fb2)).flatten = _
                                  rw [List.map_cons, List.map_nil]
                                  simp [chC]
                                rw [chsC_app, e1, List.length_append]
                                exact O8.out
                              have hres := CQ.out.chPut HFB.out ((Kept.refl [] w6).drew.alloc _) K8.out ho R8.out (fun c3 h3 i h4 => by
                                rcases List.mem_append.1 h3 with h5 | h5
                                · exact CQ.out.cr c3 h5 i h4
                                · simp at h5; rw [h5] at h4; exact CFI.out i h4)
                              have HRES := Lib.hid hres.1
                              clear hres ho
                              go_wp2
                              go_roundg (D.ch.length - (j + 1))
                              case measure => omega
                              case rel => exact ⟨j + 1, _, idx2, fb2, A8, m8, c8, _, mt2, by omega, rfl, by go_num, HRES.out, PN2.out, PS2.out, by simp [CL.out], fun t c1 c2 h1 h2 => by
                                have h2' : (D'.ch ++ [(⟨cc.kind, cc.name, cc.dst, none⟩ : ChD)])[t]? = some c2 := h2
                                by_cases ht : t < D'.ch.length
                                · rw [List.getElem?_append_left ht] at h2'
                                  have := (CHR.out t c1 c2 h1 h2').ext (more := more)
                                  rw [← HMO.out] at this
                                  exact this
                                · have htl := (List.getElem?_eq_some_iff.1 h2').1
                                  rw [List.length_append, List.length_singleton] at htl
                                  have htj : t = j := by have := CL.out; omega
                                  subst htj
                                  rw [List.getElem?_append_right (by omega), CL.out, Nat.sub_self] at h2'
                                  simp at h2'
                                  rw [HCC.out] at h1
                                  injection h1 with h1
                                  rw [← h2', ← h1]
                                  exact RC.out⟩
                    | some qi =>
                      rw [hcf] at q3
                      simp only [Option.map_some] at q3
                      have HCF := Lib.hid hcf
                      have hil : qi < D.files.length := IV.out.ok.ch cc (List.mem_of_getElem? HCC.out) qi hcf
                      obtain ⟨f, hf⟩ : ∃ f, D.files[qi]? = some f := ⟨_, List.getElem?_eq_getElem hil⟩
                      have FL := Lib.hid (IV.out.ok.sure f (List.mem_of_getElem? hf)).2
                      have HFI := Lib.hid hf
                      obtain ⟨AF, cF, _, _, hFb, hFo, _⟩ := (XW.out.fs).get hf
                      have FBK := Lib.hid hFb
                      have FOW := Lib.hid hFo
                      clear hcf hf hFb hFo
                      go_upto_region 18 with (first
                        | (((with_reducible show wpList _ _ _ ({ dst := none, op := Op.store 76 (.tmp 11) (.tmp 76), type := _, pos := _, after := _, guard := _ } :: _) _ _); refine wpList_put (t := 76) rfl 76 (.tmp 11) (.tmp 76) rfl _ (by rfl) (by rfl) (by (repeat (first | (apply Blk.new'; simp; done) | apply Blk.alloc | apply Blk.drew))) (by rfl) (by kernel_rfl) (by simp [Value.oneCell']) ?_; intro w5 hb5 hk5; have Hb5 := Lib.hid hb5; have Hk5 := Lib.hid hk5; clear hb5 hk5)
                           have K5 := Lib.hid (((Kept.refl [] wr).alloc _).trans Hk5.out (fun i hi => .inr (by simp at hi; omega)) : Kept [] wr w5)
                           have hx5 := Hb5.out.cell
                           have hf5 := Hb5.out.frozen
                           have hl5 := Hb5.out.lt)
                        | (go_at_call 57
                           with_reducible refine (copied_any w5 ((CP.out.go K5.out).v) (FBK.out.kept K5.out (by simp)) (FOW.out.kept K5.out (by simp)) FL.out).mono ?_
                           rintro e wq ⟨gn, rfl, hpost⟩
                           obtain ⟨idx2, fb2, G2, mt2, fs2, jj, hcp, hjj, hgn, ⟨more, hmore⟩, hsub, hnew, hk3⟩ := (CP.out.go K5.out).copied ((XW.out.go K5.out).fs) HFI.out hpost
                           have CP3 := Lib.hid hcp
                           have HJ := Lib.hid hjj
                           have HMO := Lib.hid hmore
                           have HGN := Lib.hid hgn
                           have QG := Lib.hid (show wr.heap.size ∉ G2 from fun hm => by
                             rcases hnew _ hm with h1 | h1
                             · have := GLT.out _ h1; omega
                             · have := Hb5.out.lt; omega)
                           have Bq := Lib.hid (Hb5.out.kept hk3 (by have := TBL.out; simp; omega))
                           have hxq := Bq.out.cell
                           have hfq := Bq.out.frozen
                           have hlq := Bq.out.lt
                           clear hcp hjj hmore hgn hnew hsub hk3 hpost hx5 hf5 hl5))
                      have CQ := Lib.hid (show CpI w (wq.setCell ⟨wr.heap.size, 3, none⟩ (.pointer (some ⟨gn, 0, none⟩))) vb tb po fb D { D' with files := fs2 } idx2 fb2 nb sb A' m' c' G2 mt2 from CP3.out.far ((Kept.refl [wr.heap.size] wq).setCell (p := ⟨wr.heap.size, 3, none⟩) (.inl (by simp)) _) QG.out (by have := VBL.out; omega) (by have := TBL.out; omega) CP.out.k.size (fun q hq e => by
                        obtain ⟨i, hi, e2⟩ := CP3.out.mkk q hq
                        rw [e] at e2
                        injection e2 with e2
                        have h1 := HFB.out i hi
                        have h2 := CP.out.k.size
                        omega))
                      have Q6 := Lib.hid (show Blk (wq.setCell ⟨wr.heap.size, 3, none⟩ (.pointer (some ⟨gn, 0, none⟩))) wr.heap.size 76 #[.int .i64 cc.kind, .string (strOf cc.name), .string (strOf cc.dst), .pointer (some ⟨gn, 0, none⟩)] from Bq.out.set 3 _)
                      clear hxq hfq hlq q0 q1 q2 q3
                      generalize wq.setCell ⟨wr.heap.size, 3, none⟩ (.pointer (some ⟨gn, 0, none⟩)) = w6 at *
                      have PN2 := Lib.hid (show D.now.Perm (D'.now.map (pk idx2)) by rw [HMO.out, pk_ext CP.out.nr]; exact PN.out)
                      have PS2 := Lib.hid (show D.sur.Perm (D'.sur.map (pk idx2)) by rw [HMO.out, pk_ext CP.out.sr]; exact PS.out)
                      have RC := Lib.hid (show ChR idx2 cc ⟨cc.kind, cc.name, cc.dst, some jj⟩ from ⟨rfl, rfl, rfl, .inr ⟨qi, jj, HCF.out, rfl, HJ.out⟩⟩)
                      have CFI := Lib.hid (show ∀ i, (⟨cc.kind, cc.name, cc.dst, some jj⟩ : ChD).f = some i → i < idx2.length from fun i h => by injection h with h; subst h; exact (List.getElem?_eq_some_iff.1 HJ.out).1)
                      have PVE := Lib.hid (show fbA fb2 jj = gn from HGN.out.symm)
                      have hq6 := Q6.out.cell
                      have hp6 := CQ.out.x.blk.cell
                      have hpa := (CQ.out.x.blk.alloc (.cells #[.int .i64 cc.kind, .string (strOf cc.name), .string (strOf cc.dst), .pointer (some ⟨gn, 0, none⟩)] 76)).cell
                      have hlen : D'.ch.length + 1 ≤ maxLen := by have h1 := CHL.out; have h2 := CL.out; unfold maxLen; omega
                      have hby : (D'.ch.length + 1) * 48 ≤ 140737488355328 := by have h1 := CHL.out; have h2 := CL.out; omega
                      go_upto_region 18 with fail
                      refine wp_region_held_drew (S := (fun w' => ∀ i, w'.cell? ⟨wr.heap.size, i, none⟩ = (#[.int .i64 cc.kind, .string (strOf cc.name), .string (strOf cc.dst), .pointer (some ⟨gn, 0, none⟩)] : Array Value)[i]?)) (by kernel_rfl) (fun i => hq6 i) (fun hHeld => ?_)
                      refine wpAnyH_take (i := 0) (oi := ⟨some 82, _, _, _, _, _⟩) (v := ?vh7_1) rfl (by kernel_rfl) (by kernel_rfl) (by kernel_rfl) (fun _ _ _ h => h) (Or.inl ⟨by kernel_rfl, ?hyh7_1⟩) (by assumption) ?resth7_1
                      case hyh7_1 => (intro w99 hSw; (try dsimp only at hSw); (try go_simp); (try with_reducible rfl); (try omega))
                      simp only [Act.put, List.setIfInBounds_toArray, List.set_cons_zero, List.set_cons_succ]
                      refine wpAnyH_take (i := 1) (oi := ⟨some 83, _, _, _, _, _⟩) (v := ?vh7_2) rfl (by kernel_rfl) (by kernel_rfl) (by kernel_rfl) (fun _ _ _ h => h) (Or.inl ⟨by kernel_rfl, ?hyh7_2⟩) (by assumption) ?resth7_2
                      case hyh7_2 => (intro w99 hSw; (try dsimp only at hSw); (try go_simp); (try with_reducible rfl); (try omega))
                      simp only [Act.put, List.setIfInBounds_toArray, List.set_cons_zero, List.set_cons_succ]
                      refine wpAnyH_take (i := 2) (oi := ⟨some 84, _, _, _, _, _⟩) (v := ?vh7_3) rfl (by kernel_rfl) (by kernel_rfl) (by kernel_rfl) (fun _ _ _ h => h) (Or.inl ⟨by kernel_rfl, ?hyh7_3⟩) (by assumption) ?resth7_3
                      case hyh7_3 => (intro w99 hSw; (try dsimp only at hSw); (try go_simp); (try with_reducible rfl); (try omega))
                      simp only [Act.put, List.setIfInBounds_toArray, List.set_cons_zero, List.set_cons_succ]
                      refine wpAnyH_take (i := 3) (oi := ⟨some 85, _, _, _, _, _⟩) (v := ?vh7_4) rfl (by kernel_rfl) (by kernel_rfl) (by kernel_rfl) (fun _ _ _ h => h) (Or.inl ⟨by kernel_rfl, ?hyh7_4⟩) (by assumption) ?resth7_4
                      case hyh7_4 => (intro w99 hSw; (try dsimp only at hSw); (try go_simp); (try with_reducible rfl); (try omega))
                      simp only [Act.put, List.setIfInBounds_toArray, List.set_cons_zero, List.set_cons_succ]
                      refine wpAnyH_take (i := 5) (oi := ⟨some 87, _, _, _, _, _⟩) (v := ?vh7_5) rfl (by kernel_rfl) (by kernel_rfl) (by kernel_rfl) (fun _ _ _ h => h) (Or.inl ⟨by kernel_rfl, ?hyh7_5⟩) (by assumption) ?resth7_5
                      case hyh7_5 => (intro w99 hSw; (try dsimp only at hSw); (try go_simp); (try with_reducible rfl); (try omega))
                      simp only [Act.put, List.setIfInBounds_toArray, List.set_cons_zero, List.set_cons_succ]
                      refine wpAnyH_ready (rs := [4, 6]) (by kernel_rfl) (by simp) ?_
                      refine AllReadyH.cons (o := ⟨some 86, _, _, _, _, _⟩) rfl (fun KQ hKQ => ?w4h7_6) (AllReadyH.cons (o := ⟨some 88, _, _, _, _, _⟩) rfl (fun KQ hKQ => ?w6h7_6) AllReadyH.nil)
                      case w4h7_6 =>
                        go_simp
                        refine hKQ.out _ _ (fun i => hq6 i) (fun hHeld9 => ?_)
                        clear hKQ KQ hHeld
                        have hHeld := hHeld9
                        clear hHeld9
                        try simp only [Act.put, List.setIfInBounds_toArray, List.set_cons_zero, List.set_cons_succ]
                        refine wpAnyH_ready (rs := [6]) (by kernel_rfl) (by simp) ?_
                        refine AllReadyH.cons (o := ⟨some 88, _, _, _, _, _⟩) rfl (fun KQ hKQ => ?w6h7_7) AllReadyH.nil
                        case w6h7_7 =>
                          go_simp
                          refine hKQ.out _ _ (fun i => ((Q6.out.drew).alloc _).cell i) (fun hHeld9 => ?_)
                          clear hKQ KQ hHeld
                          have hHeld := hHeld9
                          clear hHeld9
                          try simp only [Act.put, List.setIfInBounds_toArray, List.set_cons_zero, List.set_cons_succ]
                          refine wpAnyH_ready (rs := [7]) (by kernel_rfl) (by simp) ?_
                          refine AllReadyH.cons (o := ⟨some 89, _, _, _, _, _⟩) rfl (fun KQ hKQ => ?w7h7_8) AllReadyH.nil
                          case w7h7_8 =>
                            refine step_app _ rfl (.tmp 86) (.tmp 88) 62 rfl elem_chg (by first | (simp [Act.eval]; done) | (simp [Act.eval]; rfl) | rfl) (CQ.out.x.row.drew.alloc _) (by first | (simp [Act.eval]; done) | (simp [Act.eval]; rfl) | rfl) (Rd.laid _ [.int .i64 cc.kind, .string (strOf cc.name), .string (strOf cc.dst), .pointer (some ⟨gn, 0, none⟩)] _) rfl (by simp [Value.oneCell']) hlen hby ?_
                            intro v8 w8 ho8 hk8 hr8
                            obtain ⟨A8, m8, c8, rfl⟩ := Own.form' ho8
                            have O8 := Lib.hid ho8
                            have K8 := Lib.hid hk8
                            have R8 := Lib.hid hr8
                            have Q8 := Lib.hid (((Q6.out.drew).alloc (.cells #[.int .i64 cc.kind, .string (strOf cc.name), .string (strOf cc.dst), .pointer (some ⟨gn, 0, none⟩)] 76)).kept hk8 (fun hm => QG.out (CQ.out.x.inr _ hm)))
                            have P8 := Lib.hid (((CQ.out.x.blk.drew).alloc (.cells #[.int .i64 cc.kind, .string (strOf cc.name), .string (strOf cc.dst), .pointer (some ⟨gn, 0, none⟩)] 76)).kept hk8 CQ.out.x.row_ne.1)
                            have hp8 := P8.out.cell
                            have hpf8 := P8.out.frozen
                            have hpl8 := P8.out.lt
                            clear ho8 hk8 hr8
                            refine hKQ.out _ _ (fun i => Q8.out.cell i) (fun hHeld9 => ?_)
                            clear hKQ KQ hHeld
                            have hHeld := hHeld9
                            clear hHeld9
                            try simp only [Act.put, List.setIfInBounds_toArray, List.set_cons_zero, List.set_cons_succ]
                            refine wpAnyH_take (i := 8) (oi := ⟨some 90, _, _, _, _, _⟩) (v := ?vh7_9) rfl (by kernel_rfl) (by kernel_rfl) (by kernel_rfl) (fun _ _ _ h => h) (Or.inl ⟨by kernel_rfl, ?hyh7_9⟩) (by assumption) ?resth7_9
                            case hyh7_9 => (intro w99 hSw; (try dsimp only at hSw); (try go_simp); (try with_reducible rfl); (try omega))
                            simp only [Act.put, List.setIfInBounds_toArray, List.set_cons_zero, List.set_cons_succ]
                            refine wpAnyH_take (i := 9) (oi := ⟨some 91, _, _, _, _, _⟩) (v := ?vh7_10) rfl (by kernel_rfl) (by kernel_rfl) (by kernel_rfl) (fun _ _ _ h => h) (Or.inl ⟨by kernel_rfl, ?hyh7_10⟩) (by assumption) ?resth7_10
                            case hyh7_10 => (intro w99 hSw; (try dsimp only at hSw); (try go_simp); (try with_reducible rfl); (try omega))
                            simp only [Act.put, List.setIfInBounds_toArray, List.set_cons_zero, List.set_cons_succ]
                            refine wpAnyH_ready (rs := [10]) (by kernel_rfl) (by simp) ?_
                            refine AllReadyH.cons (o := ⟨none, _, _, _, _, _⟩) rfl (fun KQ hKQ => ?w10h7_11) AllReadyH.nil
                            case w10h7_11 =>
                              go_simp
                              refine hKQ.out _ _ (fun i => (Q8.out.far (p := ⟨po, 3, none⟩) (fun e => QG.out (by rw [show wr.heap.size = po from e]; exact CQ.out.x.inp)) _).cell i) (fun hHeld9 => ?_)
                              clear hKQ KQ hHeld
                              have hHeld := hHeld9
                              clear hHeld9
                              try simp only [Act.put, List.setIfInBounds_toArray, List.set_cons_zero, List.set_cons_succ]
                              refine wpAnyH_done (by kernel_rfl) ?_ _
                              clear hHeld
                              have ho : Own w8 76 4 (.slice A8 m8 c8) (D'.ch ++ [(⟨cc.kind, cc.name, cc.dst, some jj⟩ : ChD)]).length (chsC fb2 (D'.ch ++ [(⟨cc.kind, cc.name, cc.dst, some jj⟩ : ChD)])) := by
                                have e1 : chsC fb2 [(⟨cc.kind, cc.name, cc.dst, some jj⟩ : ChD)] = [.int .i64 cc.kind, .string (strOf cc.name), .string (strOf cc.dst), .pointer (some ⟨gn, 0, none⟩)] := by
                                  show ([(⟨cc.kind, cc.name, cc.dst, some jj⟩ : ChD)].map (chC fb2)).flatten = _
                                  rw [List.map_cons, List.map_nil]
                                  simp [chC, PVE.out]
                                rw [chsC_app, e1, List.length_append]
                                exact O8.out
                              have hres := CQ.out.chPut HFB.out ((Kept.refl [] w6).drew.alloc _) K8.out ho R8.out (fun c3 h3 i h4 => by
                                rcases List.mem_append.1 h3 with h5 | h5
                                · exact CQ.out.cr c3 h5 i h4
                                · simp at h5; rw [h5] at h4; exact CFI.out i h4)
                              have HRES := Lib.hid hres.1
                              clear hres ho
                              go_wp2
                              go_roundg (D.ch.length - (j + 1))
                              case measure => omega
                              case rel => exact ⟨j + 1, _, idx2, fb2, A8, m8, c8, _, mt2, by omega, rfl, by go_num, HRES.out, PN2.out, PS2.out, by simp [CL.out], fun t c1 c2 h1 h2 => by
                                have h2' : (D'.ch ++ [(⟨cc.kind, cc.name, cc.dst, some jj⟩ : ChD)])[t]? = some c2 := h2
                                by_cases ht : t < D'.ch.length
                                · rw [List.getElem?_append_left ht] at h2'
                                  have := (CHR.out t c1 c2 h1 h2').ext (more := more)
                                  rw [← HMO.out] at this
                                  exact this
                                · have htl := (List.getElem?_eq_some_iff.1 h2').1
                                  rw [List.length_append, List.length_singleton] at htl
                                  have htj : t = j := by have := CL.out; omega
                                  subst htj
                                  rw [List.getElem?_append_right (by omega), CL.out, Nat.sub_self] at h2'
                                  simp at h2'
                                  rw [HCC.out] at h1
                                  injection h1 with h1
                                  rw [← h2', ← h1]
                                  exact RC.out⟩
                      case w6h7_6 =>
                        go_simp
                        refine hKQ.out _ _ (fun i => ((Q6.out.drew).alloc _).cell i) (fun hHeld9 => ?_)
                        clear hKQ KQ hHeld
                        have hHeld := hHeld9
                        clear hHeld9
                        try simp only [Act.put, List.setIfInBounds_toArray, List.set_cons_zero, List.set_cons_succ]
                        refine wpAnyH_ready (rs := [4]) (by kernel_rfl) (by simp) ?_
                        refine AllReadyH.cons (o := ⟨some 86, _, _, _, _, _⟩) rfl (fun KQ hKQ => ?w4h7_12) AllReadyH.nil
                        case w4h7_12 =>
                          go_simp
                          refine hKQ.out _ _ (fun i => ((Q6.out.drew).alloc _).cell i) (fun hHeld9 => ?_)
                          clear hKQ KQ hHeld
                          have hHeld := hHeld9
                          clear hHeld9
                          try simp only [Act.put, List.setIfInBounds_toArray, List.set_cons_zero, List.set_cons_succ]
                          refine wpAnyH_ready (rs := [7]) (by kernel_rfl) (by simp) ?_
                          refine AllReadyH.cons (o := ⟨some 89, _, _, _, _, _⟩) rfl (fun KQ hKQ => ?w7h7_13) AllReadyH.nil
                          case w7h7_13 =>
                            refine step_app _ rfl (.tmp 86) (.tmp 88) 62 rfl elem_chg (by first | (simp [Act.eval]; done) | (simp [Act.eval]; rfl) | rfl) (CQ.out.x.row.drew.alloc _) (by first | (simp [Act.eval]; done) | (simp [Act.eval]; rfl) | rfl) (Rd.laid _ [.int .i64 cc.kind, .string (strOf cc.name), .string (strOf cc.dst), .pointer (some ⟨gn, 0, none⟩)] _) rfl (by simp [Value.oneCell']) hlen hby ?_
                            intro v8 w8 ho8 hk8 hr8
                            obtain ⟨A8, m8, c8, rfl⟩ := Own.form' ho8
                            have O8 := Lib.hid ho8
                            have K8 := Lib.hid hk8
                            have R8 := Lib.hid hr8
                            have Q8 := Lib.hid (((Q6.out.drew).alloc (.cells #[.int .i64 cc.kind, .string (strOf cc.name), .string (strOf cc.dst), .pointer (some ⟨gn, 0, none⟩)] 76)).kept hk8 (fun hm => QG.out (CQ.out.x.inr _ hm)))
                            have P8 := Lib.hid (((CQ.out.x.blk.drew).alloc (.cells #[.int .i64 cc.kind, .string (strOf cc.name), .string (strOf cc.dst), .pointer (some ⟨gn, 0, none⟩)] 76)).kept hk8 CQ.out.x.row_ne.1)
                            have hp8 := P8.out.cell
                            have hpf8 := P8.out.frozen
                            have hpl8 := P8.out.lt
                            clear ho8 hk8 hr8
                            refine hKQ.out _ _ (fun i => Q8.out.cell i) (fun hHeld9 => ?_)
                            clear hKQ KQ hHeld
                            have hHeld := hHeld9
                            clear hHeld9
                            try simp only [Act.put, List.setIfInBounds_toArray, List.set_cons_zero, List.set_cons_succ]
                            refine wpAnyH_take (i := 8) (oi := ⟨some 90, _, _, _, _, _⟩) (v := ?vh7_14) rfl (by kernel_rfl) (by kernel_rfl) (by kernel_rfl) (fun _ _ _ h => h) (Or.inl ⟨by kernel_rfl, ?hyh7_14⟩) (by assumption) ?resth7_14
                            case hyh7_14 => (intro w99 hSw; (try dsimp only at hSw); (try go_simp); (try with_reducible rfl); (try omega))
                            simp only [Act.put, List.setIfInBounds_toArray, List.set_cons_zero, List.set_cons_succ]
                            refine wpAnyH_take (i := 9) (oi := ⟨some 91, _, _, _, _, _⟩) (v := ?vh7_15) rfl (by kernel_rfl) (by kernel_rfl) (by kernel_rfl) (fun _ _ _ h => h) (Or.inl ⟨by kernel_rfl, ?hyh7_15⟩) (by assumption) ?resth7_15
                            case hyh7_15 => (intro w99 hSw; (try dsimp only at hSw); (try go_simp); (try with_reducible rfl); (try omega))
                            simp only [Act.put, List.setIfInBounds_toArray, List.set_cons_zero, List.set_cons_succ]
                            refine wpAnyH_ready (rs := [10]) (by kernel_rfl) (by simp) ?_
                            refine AllReadyH.cons (o := ⟨none, _, _, _, _, _⟩) rfl (fun KQ hKQ => ?w10h7_16) AllReadyH.nil
                            case w10h7_16 =>
                              go_simp
                              refine hKQ.out _ _ (fun i => (Q8.out.far (p := ⟨po, 3, none⟩) (fun e => QG.out (by rw [show wr.heap.size = po from e]; exact CQ.out.x.inp)) _).cell i) (fun hHeld9 => ?_)
                              clear hKQ KQ hHeld
                              have hHeld := hHeld9
                              clear hHeld9
                              try simp only [Act.put, List.setIfInBounds_toArray, List.set_cons_zero, List.set_cons_succ]
                              refine wpAnyH_done (by kernel_rfl) ?_ _
                              clear hHeld
                              have ho : Own w8 76 4 (.slice A8 m8 c8) (D'.ch ++ [(⟨cc.kind, cc.name, cc.dst, some jj⟩ : ChD)]).length (chsC fb2 (D'.ch ++ [(⟨cc.kind, cc.name, cc.dst, some jj⟩ : ChD)])) := by
                                have e1 : chsC fb2 [(⟨cc.kind, cc.name, cc.dst, some jj⟩ : ChD)] = [.int .i64 cc.kind, .string (strOf cc.name), .string (strOf cc.dst), .pointer (some ⟨gn, 0, none⟩)] := by
                                  show ([(⟨cc.kind, cc.name, cc.dst, some jj⟩ : ChD)].map (chC fb2)).flatten = _
                                  rw [List.map_cons, List.map_nil]
                                  simp [chC, PVE.out]
                                rw [chsC_app, e1, List.length_append]
                                exact O8.out
                              have hres := CQ.out.chPut HFB.out ((Kept.refl [] w6).drew.alloc _) K8.out ho R8.out (fun c3 h3 i h4 => by
                                rcases List.mem_append.1 h3 with h5 | h5
                                · exact CQ.out.cr c3 h5 i h4
                                · simp at h5; rw [h5] at h4; exact CFI.out i h4)
                              have HRES := Lib.hid hres.1
                              clear hres ho
                              go_wp2
                              go_roundg (D.ch.length - (j + 1))
                              case measure => omega
                              case rel => exact ⟨j + 1, _, idx2, fb2, A8, m8, c8, _, mt2, by omega, rfl, by go_num, HRES.out, PN2.out, PS2.out, by simp [CL.out], fun t c1 c2 h1 h2 => by
                                have h2' : (D'.ch ++ [(⟨cc.kind, cc.name, cc.dst, some jj⟩ : ChD)])[t]? = some c2 := h2
                                by_cases ht : t < D'.ch.length
                                · rw [List.getElem?_append_left ht] at h2'
                                  have := (CHR.out t c1 c2 h1 h2').ext (more := more)
                                  rw [← HMO.out] at this
                                  exact this
                                · have htl := (List.getElem?_eq_some_iff.1 h2').1
                                  rw [List.length_append, List.length_singleton] at htl
                                  have htj : t = j := by have := CL.out; omega
                                  subst htj
                                  rw [List.getElem?_append_right (by omega), CL.out, Nat.sub_self] at h2'
                                  simp at h2'
                                  rw [HCC.out] at h1
                                  injection h1 with h1
                                  rw [← h2', ← h1]
                                  exact RC.out⟩
                  · obtain rfl : j = D.ch.length := by omega
                    have i1 : ¬ (D.ch.length : Int) < (D.ch.length : Int) := by omega
                    go_wp2
                    go_ret
                    exact ⟨po, G', D', idx, rfl, ⟨_, _, _, _, _, _, CP.out.x⟩, CP.out.k, fun k hk => (CP.out.g k hk).1, ⟨CP.out.nd, CP.out.il, CP.out.fl, CP.out.ff, PN.out, PS.out, CP.out.nr, CP.out.sr, CL.out, CHR.out, CP.out.q1⟩⟩
              · intro x qi left' w2 hp hrg2 hk2 hs2 hen
                have qin : (x, qi) ∈ D.sur := by
                  have h1 := PS.out
                  exact h1.mem_iff.2 (List.mem_append_right _ (hp.mem_iff.2 List.mem_cons_self))
                have hqi : qi < D.files.length := IV.out.ok.sur _ qin
                obtain ⟨f, hf⟩ : ∃ f, D.files[qi]? = some f := ⟨_, List.getElem?_eq_getElem hqi⟩
                have FL := Lib.hid (IV.out.ok.sure f (List.mem_of_getElem? hf)).2
                have CP2 := Lib.hid (CP.out.far hk2 RBG.out (by have := RB.out; omega) (by have := RB.out; omega) RB.out.2.2 (fun q hq e => by
                  obtain ⟨i, hi, e2⟩ := CP.out.mkk q hq
                  rw [e] at e2
                  injection e2 with e2
                  have h1 := HFB.out i hi
                  have h2 := RB.out.2.2
                  omega))
                have R2 := Lib.hid hrg2
                have RLT := Lib.hid hrg2.lt
                have HP := Lib.hid hp
                have HFI := Lib.hid hf
                have HE : (Instr.entry (.pointer (some ⟨rb, 0, none⟩))).run Try.prog w2 = .ok (.tuple #[.string (strOf x), .pointer (some ⟨fbA fb qi, 0, none⟩)]) w2 := hen
                have e1 : ekS x = .string (strOf x) := rfl
                have e2 : evF fb qi = .pointer (some ⟨fbA fb qi, 0, none⟩) := rfl
                rw [e1, e2]
                have XW := Lib.hid (XD.out.go CP2.out.k)
                obtain ⟨AF, cF, _, _, hFb, hFo, _⟩ := (XW.out.fs).get hf
                have FBK := Lib.hid hFb
                have FOW := Lib.hid hFo
                clear hp hrg2 hk2 hs2 hen e1 e2 hf hFb hFo qin
                go_upto_region 13 with fail
                have hpo2 := CP2.out.x.blk.cell
                clear HE
                refine wp_region_held_drew (S := (fun w' => ∀ i, w'.cell? ⟨po, i, none⟩ = (#[.int .i64 D'.quota, .map (some nb), .map (some sb), .slice A' m' c', .int .i64 D'.ops, .int .i64 D'.fail] : Array Value)[i]?)) (by kernel_rfl) (fun i => hpo2 i) (fun hHeld => ?_)
                refine wpAnyH_take (i := 0) (oi := ⟨some 60, _, _, _, _, _⟩) (v := ?vh8_1) rfl (by kernel_rfl) (by kernel_rfl) (by kernel_rfl) (fun _ _ _ h => h) (Or.inl ⟨by kernel_rfl, ?hyh8_1⟩) (by assumption) ?resth8_1
                case hyh8_1 => (intro w99 hSw; (try dsimp only at hSw); (try go_simp); (try with_reducible rfl); (try omega))
                simp only [Act.put, List.setIfInBounds_toArray, List.set_cons_zero, List.set_cons_succ]
                refine wpAnyH_take (i := 1) (oi := ⟨some 61, _, _, _, _, _⟩) (v := ?vh8_2) rfl (by kernel_rfl) (by kernel_rfl) (by kernel_rfl) (fun _ _ _ h => h) (Or.inl ⟨by kernel_rfl, ?hyh8_2⟩) (by assumption) ?resth8_2
                case hyh8_2 => (intro w99 hSw; (try dsimp only at hSw); (try go_simp); (try with_reducible rfl); (try omega))
                simp only [Act.put, List.setIfInBounds_toArray, List.set_cons_zero, List.set_cons_succ]
                refine wpAnyH_take (i := 2) (oi := ⟨some 62, _, _, _, _, _⟩) (v := ?vh8_3) rfl (by kernel_rfl) (by kernel_rfl) (by kernel_rfl) (fun _ _ _ h => h) (Or.inl ⟨by kernel_rfl, ?hyh8_3⟩) (by assumption) ?resth8_3
                case hyh8_3 => (intro w99 hSw; (try dsimp only at hSw); (try go_simp); (try with_reducible rfl); (try omega))
                simp only [Act.put, List.setIfInBounds_toArray, List.set_cons_zero, List.set_cons_succ]
                refine wpAnyH_take (i := 3) (oi := ⟨some 63, _, _, _, _, _⟩) (v := ?vh8_4) rfl (by kernel_rfl) (by kernel_rfl) (by kernel_rfl) (fun _ _ _ h => h) (Or.inl ⟨by kernel_rfl, ?hyh8_4⟩) (by assumption) ?resth8_4
                case hyh8_4 => (intro w99 hSw; (try dsimp only at hSw); (try go_simp); (try with_reducible rfl); (try omega))
                simp only [Act.put, List.setIfInBounds_toArray, List.set_cons_zero, List.set_cons_succ]
                refine wpAnyH_take (i := 4) (oi := ⟨some 64, _, _, _, _, _⟩) (v := ?vh8_5) rfl (by kernel_rfl) (by kernel_rfl) (by kernel_rfl) (fun _ _ _ h => h) (Or.inl ⟨by kernel_rfl, ?hyh8_5⟩) (by assumption) ?resth8_5
                case hyh8_5 => (intro w99 hSw; (try dsimp only at hSw); (try go_simp); (try with_reducible rfl); (try omega))
                simp only [Act.put, List.setIfInBounds_toArray, List.set_cons_zero, List.set_cons_succ]
                refine wpAnyH_take (i := 5) (oi := ⟨some 65, _, _, _, _, _⟩) (v := ?vh8_6) rfl (by kernel_rfl) (by kernel_rfl) (by kernel_rfl) (fun _ _ _ h => h) (Or.inl ⟨by kernel_rfl, ?hyh8_6⟩) (by assumption) ?resth8_6
                case hyh8_6 => (intro w99 hSw; (try dsimp only at hSw); (try go_simp); (try with_reducible rfl); (try omega))
                simp only [Act.put, List.setIfInBounds_toArray, List.set_cons_zero, List.set_cons_succ]
                refine wpAnyH_take (i := 6) (oi := ⟨some 66, _, _, _, _, _⟩) (v := ?vh8_7) rfl (by kernel_rfl) (by kernel_rfl) (by kernel_rfl) (fun _ _ _ h => h) (Or.inl ⟨by kernel_rfl, ?hyh8_7⟩) (by assumption) ?resth8_7
                case hyh8_7 => (intro w99 hSw; (try dsimp only at hSw); (try go_simp); (try with_reducible rfl); (try omega))
                simp only [Act.put, List.setIfInBounds_toArray, List.set_cons_zero, List.set_cons_succ]
                refine wpAnyH_ready (rs := [7]) (by kernel_rfl) (by simp) ?_
                refine AllReadyH.cons (o := ⟨some 67, _, _, _, _, _⟩) rfl (fun KQ hKQ => ?w7h8_8) AllReadyH.nil
                case w7h8_8 =>
                  go_simp
                  go_at_call 57
                  with_reducible refine (copied_any w2.drew ((CP2.out.go ((Kept.refl [] w2).drew)).v) (FBK.out.kept ((Kept.refl [] w2).drew) (by simp)) (FOW.out.kept ((Kept.refl [] w2).drew) (by simp)) FL.out).mono ?_
                  rintro e w3 ⟨gn, rfl, hpost⟩
                  obtain ⟨idx2, fb2, G2, mt2, fs2, j, hcp, hj, hgn, ⟨more, hmore⟩, hsub, hnew, hk3⟩ := (CP2.out.go ((Kept.refl [] w2).drew)).copied ((XW.out.go ((Kept.refl [] w2).drew)).fs) HFI.out hpost
                  have CP3 := Lib.hid hcp
                  have HJ := Lib.hid hj
                  have HMO := Lib.hid hmore
                  have HGN := Lib.hid hgn
                  have HNW := Lib.hid hnew
                  have RBG2 := Lib.hid (show rb ∉ G2 from fun hm => by
                    rcases hnew rb hm with h1 | h1
                    · exact RBG.out h1
                    · have h2 := RLT.out
                      have h3 : w2.drew.heap.size = w2.heap.size := rfl
                      omega)
                  have R3 := Lib.hid ((R2.out.kept ((Kept.refl [] w2).drew) (by simp) (by simp)).kept hk3 (by have h1 := BNL.out; have h2 := VT.out; simp; omega) (by have h1 := RB.out; simp; omega))
                  clear hcp hj hmore hgn hnew hsub hk3 hpost
                  go_wp2_with fail
                  refine hKQ.out _ _ (fun i => CP3.out.x.blk.cell i) (fun hHeld9 => ?_)
                  clear hKQ KQ hHeld
                  have hHeld := hHeld9
                  clear hHeld9
                  try simp only [Act.put, List.setIfInBounds_toArray, List.set_cons_zero, List.set_cons_succ]
                  refine wpAnyH_ready (rs := [8]) (by kernel_rfl) (by simp) ?_
                  refine AllReadyH.cons (o := ⟨none, _, _, _, _, _⟩) rfl (fun KQ hKQ => ?w8h8_9) AllReadyH.nil
                  case w8h8_9 =>
                    obtain ⟨w4, hrun, hm4, hk4⟩ := CP3.out.x.sur.put ekS_fam Try.underlying61 x j
                    have hrun' : (Instr.mapUpdate 61 (.map (some sb)) (.string (strOf x)) (.pointer (some ⟨gn, 0, none⟩))).run Try.prog w3 = .ok () w4 := by rw [HGN.out]; exact hrun
                    have PS2 := Lib.hid (cp_step (x := x) PS.out IV.out.ok.ns HP.out CP2.out.sr HMO.out HJ.out)
                    have CP4 := Lib.hid (CP3.out.surPut HFB.out hk4 hm4 PS2.out.2)
                    have R4 := Lib.hid (R3.out.kept hk4 (by have h1 := BNL.out; have h2 := (CP3.out.g _ CP3.out.x.ins).1; simp; omega) (fun hm => RBG2.out (by simp at hm; rw [hm]; exact CP3.out.x.ins)))
                    clear hrun hm4 hk4
                    go_simp
                    refine hKQ.out _ _ (fun i => CP4.out.x.blk.cell i) (fun hHeld9 => ?_)
                    clear hKQ KQ hHeld
                    have hHeld := hHeld9
                    clear hHeld9
                    try simp only [Act.put, List.setIfInBounds_toArray, List.set_cons_zero, List.set_cons_succ]
                    refine wpAnyH_done (by kernel_rfl) ?_ _
                    clear hHeld
                    go_wp2
                    go_roundg left'.length
                    case measure => have h1 := HP.out.length_eq; simp at h1; omega
                    case rel => exact ⟨left', { D' with files := fs2, sur := putM D'.sur x j }, idx2, fb2, A', m', c', G2, mt2, rfl, CP4.out, R4.out, RBG2.out, by have h1 := PN.out; rw [HMO.out, pk_ext CP2.out.nr]; exact h1, PS2.out.1, DC.out⟩
          · intro x qi left' w2 hp hrg2 hk2 hs2 hen
            have qin : (x, qi) ∈ D.now := by
              have h1 := PN.out
              exact h1.mem_iff.2 (List.mem_append_right _ (hp.mem_iff.2 List.mem_cons_self))
            have hqi : qi < D.files.length := IV.out.ok.now _ qin
            obtain ⟨f, hf⟩ : ∃ f, D.files[qi]? = some f := ⟨_, List.getElem?_eq_getElem hqi⟩
            have FL := Lib.hid (IV.out.ok.sure f (List.mem_of_getElem? hf)).2
            have CP2 := Lib.hid (CP.out.far hk2 RBG.out (by have := RB.out; omega) (by have := RB.out; omega) RB.out.2.2 (fun q hq e => by
              obtain ⟨i, hi, e2⟩ := CP.out.mkk q hq
              rw [e] at e2
              injection e2 with e2
              have h1 := HFB.out i hi
              have h2 := RB.out.2.2
              omega))
            have R2 := Lib.hid hrg2
            have RLT := Lib.hid hrg2.lt
            have HP := Lib.hid hp
            have HFI := Lib.hid hf
            have HE : (Instr.entry (.pointer (some ⟨rb, 0, none⟩))).run Try.prog w2 = .ok (.tuple #[.string (strOf x), .pointer (some ⟨fbA fb qi, 0, none⟩)]) w2 := hen
            have e1 : ekS x = .string (strOf x) := rfl
            have e2 : evF fb qi = .pointer (some ⟨fbA fb qi, 0, none⟩) := rfl
            rw [e1, e2]
            have XW := Lib.hid (XD.out.go CP2.out.k)
            obtain ⟨AF, cF, _, _, hFb, hFo, _⟩ := (XW.out.fs).get hf
            have FBK := Lib.hid hFb
            have FOW := Lib.hid hFo
            clear hp hrg2 hk2 hs2 hen e1 e2 hf hFb hFo qin
            go_upto_region 9 with fail
            have hpo2 := CP2.out.x.blk.cell
            clear HE
            refine wp_region_held_drew (S := (fun w' => ∀ i, w'.cell? ⟨po, i, none⟩ = (#[.int .i64 D'.quota, .map (some nb), .map (some sb), .slice A' m' c', .int .i64 D'.ops, .int .i64 D'.fail] : Array Value)[i]?)) (by kernel_rfl) (fun i => hpo2 i) (fun hHeld => ?_)
            refine wpAnyH_take (i := 0) (oi := ⟨some 42, _, _, _, _, _⟩) (v := ?vh9_1) rfl (by kernel_rfl) (by kernel_rfl) (by kernel_rfl) (fun _ _ _ h => h) (Or.inl ⟨by kernel_rfl, ?hyh9_1⟩) (by assumption) ?resth9_1
            case hyh9_1 => (intro w99 hSw; (try dsimp only at hSw); (try go_simp); (try with_reducible rfl); (try omega))
            simp only [Act.put, List.setIfInBounds_toArray, List.set_cons_zero, List.set_cons_succ]
            refine wpAnyH_take (i := 1) (oi := ⟨some 43, _, _, _, _, _⟩) (v := ?vh9_2) rfl (by kernel_rfl) (by kernel_rfl) (by kernel_rfl) (fun _ _ _ h => h) (Or.inl ⟨by kernel_rfl, ?hyh9_2⟩) (by assumption) ?resth9_2
            case hyh9_2 => (intro w99 hSw; (try dsimp only at hSw); (try go_simp); (try with_reducible rfl); (try omega))
            simp only [Act.put, List.setIfInBounds_toArray, List.set_cons_zero, List.set_cons_succ]
            refine wpAnyH_take (i := 2) (oi := ⟨some 44, _, _, _, _, _⟩) (v := ?vh9_3) rfl (by kernel_rfl) (by kernel_rfl) (by kernel_rfl) (fun _ _ _ h => h) (Or.inl ⟨by kernel_rfl, ?hyh9_3⟩) (by assumption) ?resth9_3
            case hyh9_3 => (intro w99 hSw; (try dsimp only at hSw); (try go_simp); (try with_reducible rfl); (try omega))
            simp only [Act.put, List.setIfInBounds_toArray, List.set_cons_zero, List.set_cons_succ]
            refine wpAnyH_take (i := 3) (oi := ⟨some 45, _, _, _, _, _⟩) (v := ?vh9_4) rfl (by kernel_rfl) (by kernel_rfl) (by kernel_rfl) (fun _ _ _ h => h) (Or.inl ⟨by kernel_rfl, ?hyh9_4⟩) (by assumption) ?resth9_4
            case hyh9_4 => (intro w99 hSw; (try dsimp only at hSw); (try go_simp); (try with_reducible rfl); (try omega))
            simp only [Act.put, List.setIfInBounds_toArray, List.set_cons_zero, List.set_cons_succ]
            refine wpAnyH_take (i := 4) (oi := ⟨some 46, _, _, _, _, _⟩) (v := ?vh9_5) rfl (by kernel_rfl) (by kernel_rfl) (by kernel_rfl) (fun _ _ _ h => h) (Or.inl ⟨by kernel_rfl, ?hyh9_5⟩) (by assumption) ?resth9_5
            case hyh9_5 => (intro w99 hSw; (try dsimp only at hSw); (try go_simp); (try with_reducible rfl); (try omega))
            simp only [Act.put, List.setIfInBounds_toArray, List.set_cons_zero, List.set_cons_succ]
            refine wpAnyH_take (i := 5) (oi := ⟨some 47, _, _, _, _, _⟩) (v := ?vh9_6) rfl (by kernel_rfl) (by kernel_rfl) (by kernel_rfl) (fun _ _ _ h => h) (Or.inl ⟨by kernel_rfl, ?hyh9_6⟩) (by assumption) ?resth9_6
            case hyh9_6 => (intro w99 hSw; (try dsimp only at hSw); (try go_simp); (try with_reducible rfl); (try omega))
            simp only [Act.put, List.setIfInBounds_toArray, List.set_cons_zero, List.set_cons_succ]
            refine wpAnyH_take (i := 6) (oi := ⟨some 48, _, _, _, _, _⟩) (v := ?vh9_7) rfl (by kernel_rfl) (by kernel_rfl) (by kernel_rfl) (fun _ _ _ h => h) (Or.inl ⟨by kernel_rfl, ?hyh9_7⟩) (by assumption) ?resth9_7
            case hyh9_7 => (intro w99 hSw; (try dsimp only at hSw); (try go_simp); (try with_reducible rfl); (try omega))
            simp only [Act.put, List.setIfInBounds_toArray, List.set_cons_zero, List.set_cons_succ]
            refine wpAnyH_ready (rs := [7]) (by kernel_rfl) (by simp) ?_
            refine AllReadyH.cons (o := ⟨some 49, _, _, _, _, _⟩) rfl (fun KQ hKQ => ?w7h9_8) AllReadyH.nil
            case w7h9_8 =>
              go_simp
              go_at_call 57
              with_reducible refine (copied_any w2.drew ((CP2.out.go ((Kept.refl [] w2).drew)).v) (FBK.out.kept ((Kept.refl [] w2).drew) (by simp)) (FOW.out.kept ((Kept.refl [] w2).drew) (by simp)) FL.out).mono ?_
              rintro e w3 ⟨gn, rfl, hpost⟩
              obtain ⟨idx2, fb2, G2, mt2, fs2, j, hcp, hj, hgn, ⟨more, hmore⟩, hsub, hnew, hk3⟩ := (CP2.out.go ((Kept.refl [] w2).drew)).copied ((XW.out.go ((Kept.refl [] w2).drew)).fs) HFI.out hpost
              have CP3 := Lib.hid hcp
              have HJ := Lib.hid hj
              have HMO := Lib.hid hmore
              have HGN := Lib.hid hgn
              have HNW := Lib.hid hnew
              have RBG2 := Lib.hid (show rb ∉ G2 from fun hm => by
                rcases hnew rb hm with h1 | h1
                · exact RBG.out h1
                · have h2 := RLT.out
                  have h3 : w2.drew.heap.size = w2.heap.size := rfl
                  omega)
              have R3 := Lib.hid ((R2.out.kept ((Kept.refl [] w2).drew) (by simp) (by simp)).kept hk3 (by have h1 := BNL.out; have h2 := VT.out; simp; omega) (by have h1 := RB.out; simp; omega))
              clear hcp hj hmore hgn hnew hsub hk3 hpost
              go_wp2_with fail
              refine hKQ.out _ _ (fun i => CP3.out.x.blk.cell i) (fun hHeld9 => ?_)
              clear hKQ KQ hHeld
              have hHeld := hHeld9
              clear hHeld9
              try simp only [Act.put, List.setIfInBounds_toArray, List.set_cons_zero, List.set_cons_succ]
              refine wpAnyH_ready (rs := [8]) (by kernel_rfl) (by simp) ?_
              refine AllReadyH.cons (o := ⟨none, _, _, _, _, _⟩) rfl (fun KQ hKQ => ?w8h9_9) AllReadyH.nil
              case w8h9_9 =>
                obtain ⟨w4, hrun, hm4, hk4⟩ := CP3.out.x.now.put ekS_fam Try.underlying61 x j
                have hrun' : (Instr.mapUpdate 61 (.map (some nb)) (.string (strOf x)) (.pointer (some ⟨gn, 0, none⟩))).run Try.prog w3 = .ok () w4 := by rw [HGN.out]; exact hrun
                have PS2 := Lib.hid (cp_step (x := x) PN.out IV.out.ok.nn HP.out CP2.out.nr HMO.out HJ.out)
                have CP4 := Lib.hid (CP3.out.nowPut HFB.out hk4 hm4 PS2.out.2)
                have R4 := Lib.hid (R3.out.kept hk4 (by have h1 := BNL.out; have h2 := (CP3.out.g _ CP3.out.x.inn).1; simp; omega) (fun hm => RBG2.out (by simp at hm; rw [hm]; exact CP3.out.x.inn)))
                clear hrun hm4 hk4
                go_simp
                refine hKQ.out _ _ (fun i => CP4.out.x.blk.cell i) (fun hHeld9 => ?_)
                clear hKQ KQ hHeld
                have hHeld := hHeld9
                clear hHeld9
                try simp only [Act.put, List.setIfInBounds_toArray, List.set_cons_zero, List.set_cons_succ]
                refine wpAnyH_done (by kernel_rfl) ?_ _
                clear hHeld
                go_wp2
                go_roundg left'.length
                case measure => have h1 := HP.out.length_eq; simp at h1; omega
                case rel => exact ⟨left', { D' with files := fs2, now := putM D'.now x j }, idx2, fb2, A', m', c', G2, mt2, rfl, CP4.out, R4.out, RBG2.out, PS2.out.1, DS.out, DC.out⟩
end Go.Proofs.Ythdjdfdefibepaa
