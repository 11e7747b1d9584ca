
/-
  The document's disk: a change, a file put.
-/
import Derived.Test.YthdjdfdefibepaaRkE
namespace Go.Proofs.Ythdjdfdefibepaa
open Go.RowKit Go.ChangeShapes Go.WideShapes Go.ChangeAt Go.Deep Go.MapKept
set_option linter.unusedVariables false

section
variable {w w' : World} {p : Nat} {H : List Nat} {vs : List FvD} {M : RkD} {A1 A2 A3 A4 : Option Addr} {c1 c2 c3 c4 : Nat}
def GoodG (w w' : World) (H G : List Nat) : Prop := ∀ k ∈ G, (k ∈ H ∨ w.heap.size ≤ k) ∧ k < w'.heap.size
theorem RkTo.mk {M' : RkD} {vs' : List FvD} {B1 B2 B3 B4 : Option Addr} {d1 d2 d3 d4 : Nat} {G1 G2 G3 G4 G5 : List Nat} (hp : p < w.heap.size) (hpn : p ∉ H) (hk : Kept [p] w w')
    (hb : Blk w' p 87 #[.slice B1 M'.files.length d1, .slice B2 M'.now.length d2, .slice B3 M'.sur.length d3, .slice B4 M'.ch.length d4, .int .i64 M'.quota, .int .i64 M'.n, .int .i64 M'.fail])
    (h1 : FvArr w' G1 (.slice B1 M'.files.length d1) vs') (h2 : NmArr w' G2 (.slice B2 M'.now.length d2) M'.now) (h3 : NmArr w' G3 (.slice B3 M'.sur.length d3) M'.sur) (h4 : McArr w' G4 (.slice B4 M'.ch.length d4) M'.ch) (h5 : FbAt w' G5 vs' M'.files)
    (g1 : GoodG w w' H G1) (g2 : GoodG w w' H G2) (g3 : GoodG w w' H G3) (g4 : GoodG w w' H G4) (g5 : GoodG w w' H G5) : RkTo w p H M' w' := by
  refine ⟨G1 ++ (G2 ++ (G3 ++ (G4 ++ G5))), vs', B1, d1, B2, d2, B3, d3, B4, d4, ⟨hb, arr_mono FvOk h1 (fun k hk => by simp [hk]), arr_mono NmOk h2 (fun k hk => by simp [hk]), arr_mono NmOk h3 (fun k hk => by simp [hk]), arr_mono McOk h4 (fun k hk => by simp [hk]), h5.mono (fun k hk => by simp [hk]), fun hm => ?_, fun k hm => ?_⟩, hk, fun k hm => ?_⟩
  · have : (p ∈ H ∨ w.heap.size ≤ p) := by
      simp only [List.mem_append] at hm
      rcases hm with h | h | h | h | h
      · exact (g1 p h).1
      · exact (g2 p h).1
      · exact (g3 p h).1
      · exact (g4 p h).1
      · exact (g5 p h).1
    rcases this with h | h
    · exact hpn h
    · omega
  · simp only [List.mem_append] at hm
    rcases hm with h | h | h | h | h
    · exact (g1 k h).2
    · exact (g2 k h).2
    · exact (g3 k h).2
    · exact (g4 k h).2
    · exact (g5 k h).2
  · simp only [List.mem_append] at hm
    rcases hm with h | h | h | h | h
    · exact (g1 k h).1
    · exact (g2 k h).1
    · exact (g3 k h).1
    · exact (g4 k h).1
    · exact (g5 k h).1
theorem RkX.hd (h : RkX w p H vs M A1 c1 A2 c2 A3 c3 A4 c4) : ∀ k ∈ H, k ∉ [p] := fun k hm hp => h.pn (by simp at hp; subst hp; exact hm)
theorem RkX.newG (h : RkX w p H vs M A1 c1 A2 c2 A3 c3 A4 c4) (hk : Kept [p] w w') : GoodG w w' H H := fun k hm => ⟨.inl hm, Nat.lt_of_lt_of_le (h.lt k hm) hk.size⟩
theorem lv_new {α : Type} {n : Nat} {e : TypeId} {Dec : World → List Nat → List Value → α → Prop} {wa wb : World} {v : Value} {l : List α} (D : DecOk n Dec) (hD : ∀ {w w' : World} {G G' : List Nat} {cs : List Value} {a : α}, Dec w G cs a → Dec w' G' cs a) (h : LV Dec e n wa wb v l) {S : List Nat} (h1 : Kept S w wa) (h2 : Kept [p] wb w') (hp : p < wa.heap.size) :
    ArrOf w' (rowOf v) n (fun w => Dec w (rowOf v)) v l ∧ GoodG w w' H (rowOf v) := by
  obtain ⟨q1, q2, q3⟩ := lv_arr D hD h
  exact ⟨ArrOf.kept q1 h2 (fun k hk hm => by have := (q2 k hk).1; simp at hm; omega) (fun cs a h => hD h), fun k hk => ⟨.inr (Nat.le_trans h1.size (q2 k hk).1), Nat.lt_of_lt_of_le (q2 k hk).2 h2.size⟩⟩
def chgM (M : RkD) (q : McD) : RkD := { M with now := turM M.now q, ch := M.ch ++ [q] }
set_option maxHeartbeats 6400000 in
theorem rchange_any (h : RkX w p H vs M A1 c1 A2 c2 A3 c3 A4 c4) (q : McD) (hm : M.now.length ≤ 1000) (hm2 : M.ch.length ≤ 10000) :
    Calls Try.prog 65 #[.pointer (some ⟨p, 0, none⟩), .agg #[.string (strOf q.src), .string (strOf q.dst), .int .i64 (q.f : Nat)]] w fun e w' => e = .returned (.tuple #[]) ∧ RkTo w p H (chgM M q) w' := by
  have HX := Lib.hid h
  have hpl := h.blk.lt
  obtain ⟨w0, hw0⟩ : ∃ w0, w.alloc (.cells #[.string (strOf q.src), .string (strOf q.dst), .int .i64 (q.f : Nat)] 99) = w0 := ⟨_, rfl⟩
  have K0 := Lib.hid (hw0 ▸ (Kept.refl [] w).alloc _ : Kept [] w w0)
  have Q0 := Lib.hid (hw0 ▸ Blk.new w _ _ : Blk w0 w.heap.size 99 #[.string (strOf q.src), .string (strOf q.dst), .int .i64 (q.f : Nat)])
  have B0 := Lib.hid (h.blk.kept K0.out (by simp))
  have N0 := Lib.hid (h.nw.kept K0.out (by simp))
  have HG := Lib.hid (fun k hk => Nat.lt_of_lt_of_le (h.lt k hk) K0.out.size)
  have L2 := (arr_lens h.nw).2
  obtain ⟨a2, a3, a4⟩ := L2
  have HL1 := Lib.hid (show ([] : List McD).length + M.ch.length ≤ 100000 by simp; omega)
  have HL2 := Lib.hid (show ([] ++ M.ch : List McD).length + [q].length ≤ 100000 by simp; omega)
  have HG9 := Lib.hid (show ∀ k ∈ H, k < w0.drew.heap.size from fun k hk => Nat.lt_of_lt_of_le (HG.out k hk) ((Kept.refl [] w0).drew).size)
  clear h a2 a3 a4 hm2
  go_enter Try.func65, Try.ntmps65
  go_upto_region 1 with fail

  clear hw0
  have hx0 := B0.out.cell
  have hx1 := Q0.out.cell
  refine wp_region_held_drew (S := (fun w' => ∀ i, w'.cell? ⟨w.heap.size, i, none⟩ = (#[.string (strOf q.src), .string (strOf q.dst), .int .i64 (q.f : Nat)] : Array Value)[i]?)) (by kernel_rfl) (fun i => hx1 i) (fun hHeld => ?_)
  refine wpAnyH_take (i := 0) (oi := ⟨some 4, _, _, _, _, _⟩) (v := ?vh1_1) rfl (by kernel_rfl) (by kernel_rfl) (by kernel_rfl) (fun _ _ _ h => h) (Or.inl ⟨by kernel_rfl, ?hyh1_1⟩) (by assumption) ?resth1_1
  case hyh1_1 => (intro w99 hSw; (try dsimp only at hSw); (try go_simp); (try with_reducible rfl); (try omega))
  simp only [Act.put, List.setIfInBounds_toArray, List.set_cons_zero, List.set_cons_succ]
  refine wpAnyH_take (i := 1) (oi := ⟨some 5, _, _, _, _, _⟩) (v := ?vh1_2) rfl (by kernel_rfl) (by kernel_rfl) (by kernel_rfl) (fun _ _ _ h => h) (Or.inl ⟨by kernel_rfl, ?hyh1_2⟩) (by assumption) ?resth1_2
  case hyh1_2 => (intro w99 hSw; (try dsimp only at hSw); (try go_simp); (try with_reducible rfl); (try omega))
  simp only [Act.put, List.setIfInBounds_toArray, List.set_cons_zero, List.set_cons_succ]
  refine wpAnyH_take (i := 2) (oi := ⟨some 6, _, _, _, _, _⟩) (v := ?vh1_3) rfl (by kernel_rfl) (by kernel_rfl) (by kernel_rfl) (fun _ _ _ h => h) (Or.inl ⟨by kernel_rfl, ?hyh1_3⟩) (by assumption) ?resth1_3
  case hyh1_3 => (intro w99 hSw; (try dsimp only at hSw); (try go_simp); (try with_reducible rfl); (try omega))
  simp only [Act.put, List.setIfInBounds_toArray, List.set_cons_zero, List.set_cons_succ]
  refine wpAnyH_take (i := 3) (oi := ⟨some 7, _, _, _, _, _⟩) (v := ?vh1_4) rfl (by kernel_rfl) (by kernel_rfl) (by kernel_rfl) (fun _ _ _ h => h) (Or.inl ⟨by kernel_rfl, ?hyh1_4⟩) (by assumption) ?resth1_4
  case hyh1_4 => (intro w99 hSw; (try dsimp only at hSw); (try go_simp); (try with_reducible rfl); (try omega))
  simp only [Act.put, List.setIfInBounds_toArray, List.set_cons_zero, List.set_cons_succ]
  refine wpAnyH_take (i := 5) (oi := ⟨some 9, _, _, _, _, _⟩) (v := ?vh1_5) rfl (by kernel_rfl) (by kernel_rfl) (by kernel_rfl) (fun _ _ _ h => h) (Or.inl ⟨by kernel_rfl, ?hyh1_5⟩) (by assumption) ?resth1_5
  case hyh1_5 => (intro w99 hSw; (try dsimp only at hSw); (try go_simp); (try with_reducible rfl); (try omega))
  simp only [Act.put, List.setIfInBounds_toArray, List.set_cons_zero, List.set_cons_succ]
  refine wpAnyH_ready (rs := [4]) (by kernel_rfl) (by simp) ?_
  refine AllReadyH.cons (o := ⟨some 8, _, _, _, _, _⟩) rfl (fun KQ hKQ => ?w4h1_6) AllReadyH.nil
  case w4h1_6 =>
    go_simp
    refine hKQ.out _ _ (fun i => hx1 i) (fun hHeld9 => ?_)
    clear hKQ KQ hHeld
    have hHeld := hHeld9
    clear hHeld9
    try simp only [Act.put, List.setIfInBounds_toArray, List.set_cons_zero, List.set_cons_succ]
    refine wpAnyH_ready (rs := [6]) (by kernel_rfl) (by simp) ?_
    refine AllReadyH.cons (o := ⟨some 10, _, _, _, _, _⟩) rfl (fun KQ hKQ => ?w6h1_7) AllReadyH.nil
    case w6h1_7 =>
      go_simp
      go_at_call 68
      with_reducible refine (rturn_any w0.drew (NmArr.kept N0.out ((Kept.refl [] w0).drew) (by simp)) HG9.out q hm).mono ?_
      rintro e w5 ⟨A5, m5, c5, G5, rfl, ha5, hg5, hk5⟩
      have KA5 := Lib.hid (Kept.trans ((Kept.refl [] w0).drew) hk5 (by simp))
      have NA5 := Lib.hid ha5
      have GA5 := Lib.hid hg5
      have B5 := Lib.hid (B0.out.kept KA5.out (by simp))
      have Q5 := Lib.hid (Q0.out.kept KA5.out (by simp))
      have LL5 := Lib.hid (arr_lens ha5).1
      clear ha5 hg5 hk5
      go_wp2_with fail
      refine hKQ.out _ _ (fun i => Q5.out.cell i) (fun hHeld9 => ?_)
      clear hKQ KQ hHeld
      have hHeld := hHeld9
      clear hHeld9
      try simp only [Act.put, List.setIfInBounds_toArray, List.set_cons_zero, List.set_cons_succ]
      have hx5 := B5.out.cell
      have hf5 := B5.out.frozen
      have hl5 := B5.out.lt
      refine wpAnyH_take (i := 7) (oi := ⟨some 11, _, _, _, _, _⟩) (v := ?vh1_8) rfl (by kernel_rfl) (by kernel_rfl) (by kernel_rfl) (fun _ _ _ h => h) (Or.inl ⟨by kernel_rfl, ?hyh1_8⟩) (by assumption) ?resth1_8
      case hyh1_8 => (intro w99 hSw; (try dsimp only at hSw); (try go_simp); (try with_reducible rfl); (try omega))
      simp only [Act.put, List.setIfInBounds_toArray, List.set_cons_zero, List.set_cons_succ]
      refine wpAnyH_take (i := 8) (oi := ⟨some 12, _, _, _, _, _⟩) (v := ?vh1_9) rfl (by kernel_rfl) (by kernel_rfl) (by kernel_rfl) (fun _ _ _ h => h) (Or.inl ⟨by kernel_rfl, ?hyh1_9⟩) (by assumption) ?resth1_9
      case hyh1_9 => (intro w99 hSw; (try dsimp only at hSw); (try go_simp); (try with_reducible rfl); (try omega))
      simp only [Act.put, List.setIfInBounds_toArray, List.set_cons_zero, List.set_cons_succ]
      refine wpAnyH_ready (rs := [9]) (by kernel_rfl) (by simp) ?_
      refine AllReadyH.cons (o := ⟨none, _, _, _, _, _⟩) rfl (fun KQ hKQ => ?w9h1_10) AllReadyH.nil
      case w9h1_10 =>
        go_simp
        refine hKQ.out _ _ (fun i => (Q5.out.far (p := ⟨p, 1, none⟩) (by show w.heap.size ≠ p; omega) _).cell i) (fun hHeld9 => ?_)
        clear hKQ KQ hHeld
        have hHeld := hHeld9
        clear hHeld9
        try simp only [Act.put, List.setIfInBounds_toArray, List.set_cons_zero, List.set_cons_succ]
        refine wpAnyH_done (by kernel_rfl) ?_ _
        clear hHeld
        have B6 := Lib.hid (show Blk (w5.setCell ⟨p, 1, none⟩ (.slice A5 m5 c5)) p 87 #[.slice A1 M.files.length c1, .slice A5 m5 c5, .slice A3 M.sur.length c3, .slice A4 M.ch.length c4, .int .i64 M.quota, .int .i64 M.n, .int .i64 M.fail] from B5.out.set 1 (.slice A5 m5 c5))
        have K6 := Lib.hid ((Kept.refl [p] w5).setCell (p := ⟨p, 1, none⟩) (.inl (by simp)) (.slice A5 m5 c5))
        have Q6 := Lib.hid (Q5.out.kept K6.out (by simp; omega))
        clear hx5 hf5 hl5
        generalize w5.setCell ⟨p, 1, none⟩ (.slice A5 m5 c5) = w6 at *
        have KW6 := Lib.hid (((K0.out.trans KA5.out (by simp) : Kept [] w w5).mono (by simp)).trans K6.out (fun i hi => .inl hi) : Kept [p] w w6)
        have C6 := Lib.hid (HX.out.cv.kept KW6.out HX.out.hd)
        have hx6 := B6.out.cell
        have hq6 := Q6.out.cell
        have L6 := Lib.hid (show m5 = (turM M.now q).length from LL5.out.symm)
        go_upto_region 2 with fail
        have CD := Lib.hid (McArr.kept C6.out ((Kept.refl [] w6).drew) (by simp))
        have hxa := (B6.out.alloc (.cells #[.string (strOf q.src), .string (strOf q.dst), .int .i64 (q.f : Nat)] 99)).cell
        refine wp_region_held_drew (S := (fun w' => ∀ i, w'.cell? ⟨w.heap.size, i, none⟩ = (#[.string (strOf q.src), .string (strOf q.dst), .int .i64 (q.f : Nat)] : Array Value)[i]?)) (by kernel_rfl) (fun i => hq6 i) (fun hHeld => ?_)
        refine wpAnyH_take (i := 0) (oi := ⟨some 13, _, _, _, _, _⟩) (v := ?vh2_1) rfl (by kernel_rfl) (by kernel_rfl) (by kernel_rfl) (fun _ _ _ h => h) (Or.inl ⟨by kernel_rfl, ?hyh2_1⟩) (by assumption) ?resth2_1
        case hyh2_1 => (intro w99 hSw; (try dsimp only at hSw); (try go_simp); (try with_reducible rfl); (try omega))
        simp only [Act.put, List.setIfInBounds_toArray, List.set_cons_zero, List.set_cons_succ]
        refine wpAnyH_take (i := 1) (oi := ⟨some 14, _, _, _, _, _⟩) (v := ?vh2_2) rfl (by kernel_rfl) (by kernel_rfl) (by kernel_rfl) (fun _ _ _ h => h) (Or.inl ⟨by kernel_rfl, ?hyh2_2⟩) (by assumption) ?resth2_2
        case hyh2_2 => (intro w99 hSw; (try dsimp only at hSw); (try go_simp); (try with_reducible rfl); (try omega))
        simp only [Act.put, List.setIfInBounds_toArray, List.set_cons_zero, List.set_cons_succ]
        refine wpAnyH_take (i := 2) (oi := ⟨some 15, _, _, _, _, _⟩) (v := ?vh2_3) rfl (by kernel_rfl) (by kernel_rfl) (by kernel_rfl) (fun _ _ _ h => h) (Or.inl ⟨by kernel_rfl, ?hyh2_3⟩) (by assumption) ?resth2_3
        case hyh2_3 => (intro w99 hSw; (try dsimp only at hSw); (try go_simp); (try with_reducible rfl); (try omega))
        simp only [Act.put, List.setIfInBounds_toArray, List.set_cons_zero, List.set_cons_succ]
        refine wpAnyH_take (i := 3) (oi := ⟨some 16, _, _, _, _, _⟩) (v := ?vh2_4) rfl (by kernel_rfl) (by kernel_rfl) (by kernel_rfl) (fun _ _ _ h => h) (Or.inl ⟨by kernel_rfl, ?hyh2_4⟩) (by assumption) ?resth2_4
        case hyh2_4 => (intro w99 hSw; (try dsimp only at hSw); (try go_simp); (try with_reducible rfl); (try omega))
        simp only [Act.put, List.setIfInBounds_toArray, List.set_cons_zero, List.set_cons_succ]
        refine wpAnyH_take (i := 6) (oi := ⟨some 19, _, _, _, _, _⟩) (v := ?vh2_5) rfl (by kernel_rfl) (by kernel_rfl) (by kernel_rfl) (fun _ _ _ h => h) (Or.inl ⟨by kernel_rfl, ?hyh2_5⟩) (by assumption) ?resth2_5
        case hyh2_5 => (intro w99 hSw; (try dsimp only at hSw); (try go_simp); (try with_reducible rfl); (try omega))
        simp only [Act.put, List.setIfInBounds_toArray, List.set_cons_zero, List.set_cons_succ]
        refine wpAnyH_ready (rs := [4, 7]) (by kernel_rfl) (by simp) ?_
        refine AllReadyH.cons (o := ⟨some 17, _, _, _, _, _⟩) rfl (fun KQ hKQ => ?w4h2_6) (AllReadyH.cons (o := ⟨some 20, _, _, _, _, _⟩) rfl (fun KQ hKQ => ?w7h2_6) AllReadyH.nil)
        case w4h2_6 =>
          go_simp
          refine hKQ.out _ _ (fun i => hq6 i) (fun hHeld9 => ?_)
          clear hKQ KQ hHeld
          have hHeld := hHeld9
          clear hHeld9
          try simp only [Act.put, List.setIfInBounds_toArray, List.set_cons_zero, List.set_cons_succ]
          refine wpAnyH_ready (rs := [5, 7]) (by kernel_rfl) (by simp) ?_
          refine AllReadyH.cons (o := ⟨some 18, _, _, _, _, _⟩) rfl (fun KQ hKQ => ?w5h2_7) (AllReadyH.cons (o := ⟨some 20, _, _, _, _, _⟩) rfl (fun KQ hKQ => ?w7h2_7) AllReadyH.nil)
          case w5h2_7 =>
            refine step_lvs (W := w6) (w0 := w6.drew) (sl := .slice none 0 0) (l := []) (l2 := M.ch) McOk elem_mc (fun h => h) (by omega) rfl (.const (.slice none 0 0)) (.tmp 17) rfl (by first | (simp [Act.eval]; done) | (simp [Act.eval]; rfl) | rfl) (LV.nil ((Kept.refl [] w6).drew)) (by first | (simp [Act.eval]; done) | (simp [Act.eval]; rfl) | rfl) CD.out HL1.out ?_
            intro A9 m9 c9 w9 h9 k9 r9
            have K9 := Lib.hid (show Kept [] w6.drew w9 from k9)
            have H9 := Lib.hid h9
            clear h9 k9 r9
            refine hKQ.out _ _ (fun i => (Q6.out.kept (Kept.trans ((Kept.refl [] w6).drew) K9.out (by simp)) (by simp)).cell i) (fun hHeld9 => ?_)
            clear hKQ KQ hHeld
            have hHeld := hHeld9
            clear hHeld9
            try simp only [Act.put, List.setIfInBounds_toArray, List.set_cons_zero, List.set_cons_succ]
            refine wpAnyH_ready (rs := [7]) (by kernel_rfl) (by simp) ?_
            refine AllReadyH.cons (o := ⟨some 20, _, _, _, _, _⟩) rfl (fun KQ hKQ => ?w7h2_8) AllReadyH.nil
            case w7h2_8 =>
              go_simp
              refine hKQ.out _ _ (fun i => ((Q6.out.kept (Kept.trans ((Kept.refl [] w6).drew) K9.out (by simp)) (by simp)).alloc _).cell i) (fun hHeld9 => ?_)
              clear hKQ KQ hHeld
              have hHeld := hHeld9
              clear hHeld9
              try simp only [Act.put, List.setIfInBounds_toArray, List.set_cons_zero, List.set_cons_succ]
              refine wpAnyH_ready (rs := [8]) (by kernel_rfl) (by simp) ?_
              refine AllReadyH.cons (o := ⟨some 21, _, _, _, _, _⟩) rfl (fun KQ hKQ => ?w8h2_9) AllReadyH.nil
              case w8h2_9 =>
                refine step_lvs (W := w6) (w0 := (w9.alloc (.cells #[.string (strOf q.src), .string (strOf q.dst), .int .i64 (q.f : Nat)] 99))) (sl := .slice A9 m9 c9) (l := [] ++ M.ch) (l2 := [q]) McOk elem_mc (fun h => h) (by omega) rfl (.tmp 18) (.tmp 20) rfl (by first | (simp [Act.eval]; done) | (simp [Act.eval]; rfl) | rfl) (LV.go McOk H9.out ((Kept.refl [] w9).alloc _)) (by first | (simp [Act.eval]; done) | (simp [Act.eval]; rfl) | rfl) (arr_blk (Blk.new w9 _ _) rfl rfl) HL2.out ?_
                intro A10 m10 c10 w10 h10 k10 r10
                have K10 := Lib.hid (Kept.trans (K9.out.alloc (.cells #[.string (strOf q.src), .string (strOf q.dst), .int .i64 (q.f : Nat)] 99)) k10 (fun k hm => .inr (r10 k hm).1) : Kept [] w6.drew w10)
                have H10 := Lib.hid h10
                clear h10 k10 r10
                refine hKQ.out _ _ (fun i => (Q6.out.kept (Kept.trans ((Kept.refl [] w6).drew) K10.out (by simp)) (by simp)).cell i) (fun hHeld9 => ?_)
                clear hKQ KQ hHeld
                have hHeld := hHeld9
                clear hHeld9
                try simp only [Act.put, List.setIfInBounds_toArray, List.set_cons_zero, List.set_cons_succ]
                have B10 := Lib.hid (B6.out.kept (Kept.trans ((Kept.refl [] w6).drew) K10.out (by simp) : Kept [] w6 w10) (by simp))
                have hx10 := B10.out.cell
                have hf10 := B10.out.frozen
                have hl10 := B10.out.lt
                refine wpAnyH_take (i := 9) (oi := ⟨some 22, _, _, _, _, _⟩) (v := ?vh2_10) rfl (by kernel_rfl) (by kernel_rfl) (by kernel_rfl) (fun _ _ _ h => h) (Or.inl ⟨by kernel_rfl, ?hyh2_10⟩) (by assumption) ?resth2_10
                case hyh2_10 => (intro w99 hSw; (try dsimp only at hSw); (try go_simp); (try with_reducible rfl); (try omega))
                simp only [Act.put, List.setIfInBounds_toArray, List.set_cons_zero, List.set_cons_succ]
                refine wpAnyH_take (i := 10) (oi := ⟨some 23, _, _, _, _, _⟩) (v := ?vh2_11) rfl (by kernel_rfl) (by kernel_rfl) (by kernel_rfl) (fun _ _ _ h => h) (Or.inl ⟨by kernel_rfl, ?hyh2_11⟩) (by assumption) ?resth2_11
                case hyh2_11 => (intro w99 hSw; (try dsimp only at hSw); (try go_simp); (try with_reducible rfl); (try omega))
                simp only [Act.put, List.setIfInBounds_toArray, List.set_cons_zero, List.set_cons_succ]
                refine wpAnyH_ready (rs := [11]) (by kernel_rfl) (by simp) ?_
                refine AllReadyH.cons (o := ⟨none, _, _, _, _, _⟩) rfl (fun KQ hKQ => ?w11h2_12) AllReadyH.nil
                case w11h2_12 =>
                  go_simp
                  refine hKQ.out _ _ (fun i => ((Q6.out.kept (Kept.trans ((Kept.refl [] w6).drew) K10.out (by simp)) (by simp)).far (p := ⟨p, 3, none⟩) (by show w.heap.size ≠ p; omega) _).cell i) (fun hHeld9 => ?_)
                  clear hKQ KQ hHeld
                  have hHeld := hHeld9
                  clear hHeld9
                  try simp only [Act.put, List.setIfInBounds_toArray, List.set_cons_zero, List.set_cons_succ]
                  refine wpAnyH_done (by kernel_rfl) ?_ _
                  clear hHeld
                  go_wp2
                  go_end0
                  refine ⟨rfl, ?_⟩
                  have kz := (Kept.refl [p] w10).setCell (p := ⟨p, 3, none⟩) (.inl (by simp)) (.slice A10 m10 c10)
                  have k10 : Kept [] w6 w10 := Kept.trans ((Kept.refl [] w6).drew) K10.out (by simp)
                  have bz : Blk (w10.setCell ⟨p, 3, none⟩ (.slice A10 m10 c10)) p 87 #[.slice A1 M.files.length c1, .slice A5 m5 c5, .slice A3 M.sur.length c3, .slice A10 m10 c10, .int .i64 M.quota, .int .i64 M.n, .int .i64 M.fail] := B10.out.set 3 (.slice A10 m10 c10)
                  have kall := (KW6.out.trans k10 (by simp)).trans kz (fun i hi => .inl hi)
                  obtain ⟨r1, r2⟩ := lv_new (p := p) (H := H) McOk (fun h => h) H10.out KW6.out kz (Nat.lt_of_lt_of_le hpl KW6.out.size)
                  have e10 : m10 = (M.ch ++ [q]).length := by have := (arr_lens r1).1; simpa using this.symm
                  subst e10
                  refine RkTo.mk (M' := chgM M q) (G2 := G5) (G1 := H) (G3 := H) (G4 := rowOf (.slice A10 (M.ch ++ [q]).length c10)) (G5 := H) hpl HX.out.pn kall (by rw [L6.out] at bz; exact bz) (HX.out.fv.kept kall HX.out.hd) ?_ (HX.out.sr.kept kall HX.out.hd) r1 (HX.out.fb.kept kall HX.out.hd) (HX.out.newG kall) ?_ (HX.out.newG kall) (fun k hk => ⟨(r2 k hk).1, (r2 k hk).2⟩) (HX.out.newG kall)
                  · refine (NmArr.kept (by have := NA5.out; rw [L6.out] at this; exact this) ((K6.out.trans k10 (by simp)).trans kz (fun i hi => .inl hi)) (fun k hk hm => ?_))
                    simp at hm
                    subst hm
                    rcases (GA5.out k hk).1 with h1 | h1
                    · exact HX.out.pn h1
                    · have := K0.out.size; have : w0.drew.heap.size = w0.heap.size := rfl; omega
                  · intro k hk
                    refine ⟨?_, Nat.lt_of_lt_of_le (GA5.out k hk).2 ((K6.out.trans k10 (by simp)).trans kz (fun i hi => .inl hi)).size⟩
                    rcases (GA5.out k hk).1 with h1 | h1
                    · exact .inl h1
                    · exact .inr (Nat.le_trans K0.out.size h1)
          case w7h2_7 =>
            go_simp
            refine hKQ.out _ _ (fun i => ((Q6.out.drew).alloc _).cell i) (fun hHeld9 => ?_)
            clear hKQ KQ hHeld
            have hHeld := hHeld9
            clear hHeld9
            try simp only [Act.put, List.setIfInBounds_toArray, List.set_cons_zero, List.set_cons_succ]
            refine wpAnyH_ready (rs := [5]) (by kernel_rfl) (by simp) ?_
            refine AllReadyH.cons (o := ⟨some 18, _, _, _, _, _⟩) rfl (fun KQ hKQ => ?w5h2_13) AllReadyH.nil
            case w5h2_13 =>
              refine step_lvs (W := w6) (w0 := (w6.drew.alloc (.cells #[.string (strOf q.src), .string (strOf q.dst), .int .i64 (q.f : Nat)] 99))) (sl := .slice none 0 0) (l := []) (l2 := M.ch) McOk elem_mc (fun h => h) (by omega) rfl (.const (.slice none 0 0)) (.tmp 17) rfl (by first | (simp [Act.eval]; done) | (simp [Act.eval]; rfl) | rfl) (LV.nil (((Kept.refl [] w6).drew).alloc _)) (by first | (simp [Act.eval]; done) | (simp [Act.eval]; rfl) | rfl) (McArr.kept CD.out ((Kept.refl [] _).alloc _) (by simp)) HL1.out ?_
              intro A9 m9 c9 w9 h9 k9 r9
              have K9 := Lib.hid (Kept.trans (S := []) ((Kept.refl [] w6.drew).alloc (.cells #[.string (strOf q.src), .string (strOf q.dst), .int .i64 (q.f : Nat)] 99)) (show Kept [] _ w9 from k9) (by simp))
              have BN9 := Lib.hid ((Blk.new w6.drew _ _).kept (S := []) (show Kept [] (w6.drew.alloc (.cells #[.string (strOf q.src), .string (strOf q.dst), .int .i64 (q.f : Nat)] 99)) w9 from k9) (by simp))
              have H9 := Lib.hid h9
              clear h9 k9 r9
              refine hKQ.out _ _ (fun i => (Q6.out.kept (Kept.trans ((Kept.refl [] w6).drew) K9.out (by simp)) (by simp)).cell i) (fun hHeld9 => ?_)
              clear hKQ KQ hHeld
              have hHeld := hHeld9
              clear hHeld9
              try simp only [Act.put, List.setIfInBounds_toArray, List.set_cons_zero, List.set_cons_succ]
              refine wpAnyH_ready (rs := [8]) (by kernel_rfl) (by simp) ?_
              refine AllReadyH.cons (o := ⟨some 21, _, _, _, _, _⟩) rfl (fun KQ hKQ => ?w8h2_14) AllReadyH.nil
              case w8h2_14 =>
                refine step_lvs (W := w6) (w0 := w9) (sl := .slice A9 m9 c9) (l := [] ++ M.ch) (l2 := [q]) McOk elem_mc (fun h => h) (by omega) rfl (.tmp 18) (.tmp 20) rfl (by first | (simp [Act.eval]; done) | (simp [Act.eval]; rfl) | rfl) H9.out (by first | (simp [Act.eval]; done) | (simp [Act.eval]; rfl) | rfl) (arr_blk BN9.out rfl rfl) HL2.out ?_
                intro A10 m10 c10 w10 h10 k10 r10
                have K10 := Lib.hid (Kept.trans K9.out k10 (fun k hm => .inr (r10 k hm).1) : Kept [] w6.drew w10)
                have H10 := Lib.hid h10
                clear h10 k10 r10
                refine hKQ.out _ _ (fun i => (Q6.out.kept (Kept.trans ((Kept.refl [] w6).drew) K10.out (by simp)) (by simp)).cell i) (fun hHeld9 => ?_)
                clear hKQ KQ hHeld
                have hHeld := hHeld9
                clear hHeld9
                try simp only [Act.put, List.setIfInBounds_toArray, List.set_cons_zero, List.set_cons_succ]
                have B10 := Lib.hid (B6.out.kept (Kept.trans ((Kept.refl [] w6).drew) K10.out (by simp) : Kept [] w6 w10) (by simp))
                have hx10 := B10.out.cell
                have hf10 := B10.out.frozen
                have hl10 := B10.out.lt
                refine wpAnyH_take (i := 9) (oi := ⟨some 22, _, _, _, _, _⟩) (v := ?vh2_15) rfl (by kernel_rfl) (by kernel_rfl) (by kernel_rfl) (fun _ _ _ h => h) (Or.inl ⟨by kernel_rfl, ?hyh2_15⟩) (by assumption) ?resth2_15
                case hyh2_15 => (intro w99 hSw; (try dsimp only at hSw); (try go_simp); (try with_reducible rfl); (try omega))
                simp only [Act.put, List.setIfInBounds_toArray, List.set_cons_zero, List.set_cons_succ]
                refine wpAnyH_take (i := 10) (oi := ⟨some 23, _, _, _, _, _⟩) (v := ?vh2_16) rfl (by kernel_rfl) (by kernel_rfl) (by kernel_rfl) (fun _ _ _ h => h) (Or.inl ⟨by kernel_rfl, ?hyh2_16⟩) (by assumption) ?resth2_16
                case hyh2_16 => (intro w99 hSw; (try dsimp only at hSw); (try go_simp); (try with_reducible rfl); (try omega))
                simp only [Act.put, List.setIfInBounds_toArray, List.set_cons_zero, List.set_cons_succ]
                refine wpAnyH_ready (rs := [11]) (by kernel_rfl) (by simp) ?_
                refine AllReadyH.cons (o := ⟨none, _, _, _, _, _⟩) rfl (fun KQ hKQ => ?w11h2_17) AllReadyH.nil
                case w11h2_17 =>
                  go_simp
                  refine hKQ.out _ _ (fun i => ((Q6.out.kept (Kept.trans ((Kept.refl [] w6).drew) K10.out (by simp)) (by simp)).far (p := ⟨p, 3, none⟩) (by show w.heap.size ≠ p; omega) _).cell i) (fun hHeld9 => ?_)
                  clear hKQ KQ hHeld
                  have hHeld := hHeld9
                  clear hHeld9
                  try simp only [Act.put, List.setIfInBounds_toArray, List.set_cons_zero, List.set_cons_succ]
                  refine wpAnyH_done (by kernel_rfl) ?_ _
                  clear hHeld
                  go_wp2
                  go_end0
                  refine ⟨rfl, ?_⟩
                  have kz := (Kept.refl [p] w10).setCell (p := ⟨p, 3, none⟩) (.inl (by simp)) (.slice A10 m10 c10)
                  have k10 : Kept [] w6 w10 := Kept.trans ((Kept.refl [] w6).drew) K10.out (by simp)
                  have bz : Blk (w10.setCell ⟨p, 3, none⟩ (.slice A10 m10 c10)) p 87 #[.slice A1 M.files.length c1, .slice A5 m5 c5, .slice A3 M.sur.length c3, .slice A10 m10 c10, .int .i64 M.quota, .int .i64 M.n, .int .i64 M.fail] := B10.out.set 3 (.slice A10 m10 c10)
                  have kall := (KW6.out.trans k10 (by simp)).trans kz (fun i hi => .inl hi)
                  obtain ⟨r1, r2⟩ := lv_new (p := p) (H := H) McOk (fun h => h) H10.out KW6.out kz (Nat.lt_of_lt_of_le hpl KW6.out.size)
                  have e10 : m10 = (M.ch ++ [q]).length := by have := (arr_lens r1).1; simpa using this.symm
                  subst e10
                  refine RkTo.mk (M' := chgM M q) (G2 := G5) (G1 := H) (G3 := H) (G4 := rowOf (.slice A10 (M.ch ++ [q]).length c10)) (G5 := H) hpl HX.out.pn kall (by rw [L6.out] at bz; exact bz) (HX.out.fv.kept kall HX.out.hd) ?_ (HX.out.sr.kept kall HX.out.hd) r1 (HX.out.fb.kept kall HX.out.hd) (HX.out.newG kall) ?_ (HX.out.newG kall) (fun k hk => ⟨(r2 k hk).1, (r2 k hk).2⟩) (HX.out.newG kall)
                  · refine (NmArr.kept (by have := NA5.out; rw [L6.out] at this; exact this) ((K6.out.trans k10 (by simp)).trans kz (fun i hi => .inl hi)) (fun k hk hm => ?_))
                    simp at hm
                    subst hm
                    rcases (GA5.out k hk).1 with h1 | h1
                    · exact HX.out.pn h1
                    · have := K0.out.size; have : w0.drew.heap.size = w0.heap.size := rfl; omega
                  · intro k hk
                    refine ⟨?_, Nat.lt_of_lt_of_le (GA5.out k hk).2 ((K6.out.trans k10 (by simp)).trans kz (fun i hi => .inl hi)).size⟩
                    rcases (GA5.out k hk).1 with h1 | h1
                    · exact .inl h1
                    · exact .inr (Nat.le_trans K0.out.size h1)
        case w7h2_6 =>
          go_simp
          refine hKQ.out _ _ (fun i => ((Q6.out.drew).alloc _).cell i) (fun hHeld9 => ?_)
          clear hKQ KQ hHeld
          have hHeld := hHeld9
          clear hHeld9
          try simp only [Act.put, List.setIfInBounds_toArray, List.set_cons_zero, List.set_cons_succ]
          refine wpAnyH_ready (rs := [4]) (by kernel_rfl) (by simp) ?_
          refine AllReadyH.cons (o := ⟨some 17, _, _, _, _, _⟩) rfl (fun KQ hKQ => ?w4h2_18) AllReadyH.nil
          case w4h2_18 =>
            go_simp
            refine hKQ.out _ _ (fun i => ((Q6.out.drew).alloc _).cell i) (fun hHeld9 => ?_)
            clear hKQ KQ hHeld
            have hHeld := hHeld9
            clear hHeld9
            try simp only [Act.put, List.setIfInBounds_toArray, List.set_cons_zero, List.set_cons_succ]
            refine wpAnyH_ready (rs := [5]) (by kernel_rfl) (by simp) ?_
            refine AllReadyH.cons (o := ⟨some 18, _, _, _, _, _⟩) rfl (fun KQ hKQ => ?w5h2_19) AllReadyH.nil
            case w5h2_19 =>
              refine step_lvs (W := w6) (w0 := (w6.drew.alloc (.cells #[.string (strOf q.src), .string (strOf q.dst), .int .i64 (q.f : Nat)] 99))) (sl := .slice none 0 0) (l := []) (l2 := M.ch) McOk elem_mc (fun h => h) (by omega) rfl (.const (.slice none 0 0)) (.tmp 17) rfl (by first | (simp [Act.eval]; done) | (simp [Act.eval]; rfl) | rfl) (LV.nil (((Kept.refl [] w6).drew).alloc _)) (by first | (simp [Act.eval]; done) | (simp [Act.eval]; rfl) | rfl) (McArr.kept CD.out ((Kept.refl [] _).alloc _) (by simp)) HL1.out ?_
              intro A9 m9 c9 w9 h9 k9 r9
              have K9 := Lib.hid (Kept.trans (S := []) ((Kept.refl [] w6.drew).alloc (.cells #[.string (strOf q.src), .string (strOf q.dst), .int .i64 (q.f : Nat)] 99)) (show Kept [] _ w9 from k9) (by simp))
              have BN9 := Lib.hid ((Blk.new w6.drew _ _).kept (S := []) (show Kept [] (w6.drew.alloc (.cells #[.string (strOf q.src), .string (strOf q.dst), .int .i64 (q.f : Nat)] 99)) w9 from k9) (by simp))
              have H9 := Lib.hid h9
              clear h9 k9 r9
              refine hKQ.out _ _ (fun i => (Q6.out.kept (Kept.trans ((Kept.refl [] w6).drew) K9.out (by simp)) (by simp)).cell i) (fun hHeld9 => ?_)
              clear hKQ KQ hHeld
              have hHeld := hHeld9
              clear hHeld9
              try simp only [Act.put, List.setIfInBounds_toArray, List.set_cons_zero, List.set_cons_succ]
              refine wpAnyH_ready (rs := [8]) (by kernel_rfl) (by simp) ?_
              refine AllReadyH.cons (o := ⟨some 21, _, _, _, _, _⟩) rfl (fun KQ hKQ => ?w8h2_20) AllReadyH.nil
              case w8h2_20 =>
                refine step_lvs (W := w6) (w0 := w9) (sl := .slice A9 m9 c9) (l := [] ++ M.ch) (l2 := [q]) McOk elem_mc (fun h => h) (by omega) rfl (.tmp 18) (.tmp 20) rfl (by first | (simp [Act.eval]; done) | (simp [Act.eval]; rfl) | rfl) H9.out (by first | (simp [Act.eval]; done) | (simp [Act.eval]; rfl) | rfl) (arr_blk BN9.out rfl rfl) HL2.out ?_
                intro A10 m10 c10 w10 h10 k10 r10
                have K10 := Lib.hid (Kept.trans K9.out k10 (fun k hm => .inr (r10 k hm).1) : Kept [] w6.drew w10)
                have H10 := Lib.hid h10
                clear h10 k10 r10
                refine hKQ.out _ _ (fun i => (Q6.out.kept (Kept.trans ((Kept.refl [] w6).drew) K10.out (by simp)) (by simp)).cell i) (fun hHeld9 => ?_)
                clear hKQ KQ hHeld
                have hHeld := hHeld9
                clear hHeld9
                try simp only [Act.put, List.setIfInBounds_toArray, List.set_cons_zero, List.set_cons_succ]
                have B10 := Lib.hid (B6.out.kept (Kept.trans ((Kept.refl [] w6).drew) K10.out (by simp) : Kept [] w6 w10) (by simp))
                have hx10 := B10.out.cell
                have hf10 := B10.out.frozen
                have hl10 := B10.out.lt
                refine wpAnyH_take (i := 9) (oi := ⟨some 22, _, _, _, _, _⟩) (v := ?vh2_21) rfl (by kernel_rfl) (by kernel_rfl) (by kernel_rfl) (fun _ _ _ h => h) (Or.inl ⟨by kernel_rfl, ?hyh2_21⟩) (by assumption) ?resth2_21
                case hyh2_21 => (intro w99 hSw; (try dsimp only at hSw); (try go_simp); (try with_reducible rfl); (try omega))
                simp only [Act.put, List.setIfInBounds_toArray, List.set_cons_zero, List.set_cons_succ]
                refine wpAnyH_take (i := 10) (oi := ⟨some 23, _, _, _, _, _⟩) (v := ?vh2_22) rfl (by kernel_rfl) (by kernel_rfl) (by kernel_rfl) (fun _ _ _ h => h) (Or.inl ⟨by kernel_rfl, ?hyh2_22⟩) (by assumption) ?resth2_22
                case hyh2_22 => (intro w99 hSw; (try dsimp only at hSw); (try go_simp); (try with_reducible rfl); (try omega))
                simp only [Act.put, List.setIfInBounds_toArray, List.set_cons_zero, List.set_cons_succ]
                refine wpAnyH_ready (rs := [11]) (by kernel_rfl) (by simp) ?_
                refine AllReadyH.cons (o := ⟨none, _, _, _, _, _⟩) rfl (fun KQ hKQ => ?w11h2_23) AllReadyH.nil
                case w11h2_23 =>
                  go_simp
                  refine hKQ.out _ _ (fun i => ((Q6.out.kept (Kept.trans ((Kept.refl [] w6).drew) K10.out (by simp)) (by simp)).far (p := ⟨p, 3, none⟩) (by show w.heap.size ≠ p; omega) _).cell i) (fun hHeld9 => ?_)
                  clear hKQ KQ hHeld
                  have hHeld := hHeld9
                  clear hHeld9
                  try simp only [Act.put, List.setIfInBounds_toArray, List.set_cons_zero, List.set_cons_succ]
                  refine wpAnyH_done (by kernel_rfl) ?_ _
                  clear hHeld
                  go_wp2
                  go_end0
                  refine ⟨rfl, ?_⟩
                  have kz := (Kept.refl [p] w10).setCell (p := ⟨p, 3, none⟩) (.inl (by simp)) (.slice A10 m10 c10)
                  have k10 : Kept [] w6 w10 := Kept.trans ((Kept.refl [] w6).drew) K10.out (by simp)
                  have bz : Blk (w10.setCell ⟨p, 3, none⟩ (.slice A10 m10 c10)) p 87 #[.slice A1 M.files.length c1, .slice A5 m5 c5, .slice A3 M.sur.length c3, .slice A10 m10 c10, .int .i64 M.quota, .int .i64 M.n, .int .i64 M.fail] := B10.out.set 3 (.slice A10 m10 c10)
                  have kall := (KW6.out.trans k10 (by simp)).trans kz (fun i hi => .inl hi)
                  obtain ⟨r1, r2⟩ := lv_new (p := p) (H := H) McOk (fun h => h) H10.out KW6.out kz (Nat.lt_of_lt_of_le hpl KW6.out.size)
                  have e10 : m10 = (M.ch ++ [q]).length := by have := (arr_lens r1).1; simpa using this.symm
                  subst e10
                  refine RkTo.mk (M' := chgM M q) (G2 := G5) (G1 := H) (G3 := H) (G4 := rowOf (.slice A10 (M.ch ++ [q]).length c10)) (G5 := H) hpl HX.out.pn kall (by rw [L6.out] at bz; exact bz) (HX.out.fv.kept kall HX.out.hd) ?_ (HX.out.sr.kept kall HX.out.hd) r1 (HX.out.fb.kept kall HX.out.hd) (HX.out.newG kall) ?_ (HX.out.newG kall) (fun k hk => ⟨(r2 k hk).1, (r2 k hk).2⟩) (HX.out.newG kall)
                  · refine (NmArr.kept (by have := NA5.out; rw [L6.out] at this; exact this) ((K6.out.trans k10 (by simp)).trans kz (fun i hi => .inl hi)) (fun k hk hm => ?_))
                    simp at hm
                    subst hm
                    rcases (GA5.out k hk).1 with h1 | h1
                    · exact HX.out.pn h1
                    · have := K0.out.size; have : w0.drew.heap.size = w0.heap.size := rfl; omega
                  · intro k hk
                    refine ⟨?_, Nat.lt_of_lt_of_le (GA5.out k hk).2 ((K6.out.trans k10 (by simp)).trans kz (fun i hi => .inl hi)).size⟩
                    rcases (GA5.out k hk).1 with h1 | h1
                    · exact .inl h1
                    · exact .inr (Nat.le_trans K0.out.size h1)
end
end Go.Proofs.Ythdjdfdefibepaa
