
/-
  Copy's inner function: a file's copy.
-/
import Derived.Test.YthdjdfdefibepaaCpA
namespace Go.Proofs.Ythdjdfdefibepaa
open Go.RowKit Go.ChangeShapes Go.WideShapes Go.ChangeAt Go.Deep Go.MapKept
set_option linter.unusedVariables false

/-- which files were copied, and where their copies lie -/
structure CpV (w : World) (vb tb : Nat) (m : List (Option Nat × Nat)) : Prop where
  var : Blk w vb 90 #[.map (some tb)]
  map : MapB ekP evP w tb m
  key : ∀ p ∈ m, p.1 ≠ none ∧ FileV w p.1
theorem CpV.kept {w w' : World} {vb tb : Nat} {m : List (Option Nat × Nat)} {S : List Nat} (h : CpV w vb tb m) (hk : Kept S w w') (h1 : vb ∉ S) (h2 : tb ∉ S) (h3 : ∀ p ∈ m, ∀ g, p.1 = some g → g ∉ S) : CpV w' vb tb m :=
  ⟨h.var.kept hk h1, h.map.kept hk h2, fun p hp => ⟨(h.key p hp).1, fun g hg => by obtain ⟨cs, hb⟩ := (h.key p hp).2 g hg; exact ⟨cs, hb.kept hk (h3 p hp g hg)⟩⟩⟩
theorem CpV.go {w w' : World} {vb tb : Nat} {m : List (Option Nat × Nat)} (h : CpV w vb tb m) (hk : Kept [] w w') : CpV w' vb tb m := h.kept hk (by simp) (by simp) (by simp)
theorem CpV.look {w : World} {vb tb : Nat} {m : List (Option Nat × Nat)} (h : CpV w vb tb m) {o : Option Nat} (ho : FileV w o) : (Instr.lookup 90 (.map (some tb)) (ekP o) false).run Try.prog w = .ok (.pointer ((getM m o).map fun g => ⟨g, 0, none⟩)) w := by
  have := h.map.lookW (ekP_key w) (fun p hp => (h.key p hp).2) Try.underlying90 (z := .pointer none) (by have h1 := Try.underlying69; go_simp) false o ho
  have e : ((getM m o).map evP).getD (.pointer none) = .pointer ((getM m o).map fun g => ⟨g, 0, none⟩) := by
    cases getM m o <;> rfl
  rw [if_neg (by simp), e] at this
  exact this
theorem copied_none (w : World) {vb tb : Nat} {m : List (Option Nat × Nat)} (h : CpV w vb tb m) : Calls Try.prog 57 #[.pointer none, .pointer (some ⟨vb, 0, none⟩)] w fun e w' => e = .returned (.pointer none) ∧ w' = w := by
  have hlk := h.look (o := none) (by intro g hg; cases hg)
  rw [getM_none.2 (fun p hp => (h.key p hp).1)] at hlk
  have hlk' : (Instr.lookup 90 (.map (some tb)) (.pointer none) false).run Try.prog w = .ok (.pointer none) w := hlk
  have hx0 := h.var.cell
  have hl0 := h.var.lt
  clear h hlk
  go_enter Try.func57, Try.ntmps57
  go_wp2
  go_ret
  exact ⟨rfl, rfl⟩
def CopNew (w : World) (vb tb : Nat) (m : List (Option Nat × Nat)) (g : Nat) (f : FlE) (gn : Nat) (w' : World) : Prop :=
  getM m (some g) = none ∧ CpV w' vb tb (putM m (some g) gn) ∧ Kept [tb] w w' ∧ w.heap.size ≤ gn ∧ ∃ A2 c2, Blk w' gn 71 #[.slice A2 f.b.length c2, .int .i64 (f.sure : Nat)] ∧ Own w' 5 1 (.slice A2 f.b.length c2) f.b.length (u8s f.b) ∧ (∀ k ∈ rowOf (.slice A2 f.b.length c2), w.heap.size ≤ k ∧ k ≠ gn)
def CopPost (w : World) (vb tb : Nat) (m : List (Option Nat × Nat)) (g : Nat) (f : FlE) (e : Ending) (w' : World) : Prop :=
  ∃ gn, e = .returned (.pointer (some ⟨gn, 0, none⟩)) ∧ ((getM m (some g) = some gn ∧ Kept [] w w') ∨ CopNew w vb tb m g f gn w')
set_option maxHeartbeats 3200000 in
theorem copied_any (w : World) {vb tb : Nat} {m : List (Option Nat × Nat)} (h : CpV w vb tb m) {g : Nat} {f : FlE} {A : Option Addr} {c : Nat} (hb : Blk w g 71 #[.slice A f.b.length c, .int .i64 (f.sure : Nat)]) (ho : Own w 5 1 (.slice A f.b.length c) f.b.length (u8s f.b)) (hf : f.b.length ≤ 1048576) :
    Calls Try.prog 57 #[.pointer (some ⟨g, 0, none⟩), .pointer (some ⟨vb, 0, none⟩)] w (CopPost w vb tb m g f) := by
  have hfv : FileV w (some g) := fun g' hg => by injection hg with hg; subst hg; exact ⟨_, hb⟩
  have hlk := h.look (o := some g) hfv
  have hx0 := h.var.cell
  have hl0 := h.var.lt
  have hg0 := hb.cell
  have hgl := hb.lt
  have CV := Lib.hid h
  have FB := Lib.hid hb
  have FV := Lib.hid hfv
  have FO := Lib.hid (RdB.of_own ho)
  have htm := Lib.hid (show tb ≠ g from fun e => h.map.ne_blk hb e)
  have htv := Lib.hid (show tb ≠ vb from fun e => h.map.ne_blk h.var e)
  obtain ⟨nb, hnb⟩ : ∃ nb, f.b.length = nb := ⟨_, rfl⟩
  have NB := Lib.hid hnb
  rw [hnb] at hg0 hf
  cases hget : getM m (some g) with
  | some gn =>
    rw [hget] at hlk
    have hlk' : (Instr.lookup 90 (.map (some tb)) (.pointer (some ⟨g, 0, none⟩)) false).run Try.prog w = .ok (.pointer (some ⟨gn, 0, none⟩)) w := hlk
    have HG := Lib.hid hget
    clear h hb ho hlk hget hfv hnb
    go_enter Try.func57, Try.ntmps57
    go_wp2
    go_ret
    exact ⟨gn, rfl, .inl ⟨HG.out, Kept.refl _ _⟩⟩
  | none =>
    rw [hget] at hlk
    have hlk' : (Instr.lookup 90 (.map (some tb)) (.pointer (some ⟨g, 0, none⟩)) false).run Try.prog w = .ok (.pointer none) w := hlk
    have HG := Lib.hid hget
    have SRC := Lib.hid (show RdB w (rowOf (.slice A nb c)) (.slice A nb c) f.b by rw [← hnb]; exact FO.out)
    clear h hb ho hlk hget hfv hnb FO
    go_enter Try.func57, Try.ntmps57
    go_upto_region 2 with fail
    clear hlk'
    refine wp_region_held_drew (S := (fun w' => (∀ i, w'.cell? ⟨vb, i, none⟩ = (#[.map (some tb)] : Array Value)[i]?) ∧ ∀ i, w'.cell? ⟨g, i, none⟩ = (#[.slice A nb c, .int .i64 (f.sure : Nat)] : Array Value)[i]?)) (by kernel_rfl) (⟨fun i => hx0 i, fun i => hg0 i⟩) (fun hHeld => ?_)
    refine wpAnyH_take (i := 0) (oi := ⟨some 12, _, _, _, _, _⟩) (v := ?vh1_1) rfl (by kernel_rfl) (by kernel_rfl) (by kernel_rfl) (fun _ _ _ h => h) (Or.inl ⟨by kernel_rfl, ?hyh1_1⟩) (by assumption) ?resth1_1
    case hyh1_1 => (intro w99 hSw; (try dsimp only at hSw); obtain ⟨hs1, hs2⟩ := hSw; (try go_simp); (try with_reducible rfl); (try omega))
    simp only [Act.put, List.setIfInBounds_toArray, List.set_cons_zero, List.set_cons_succ]
    refine wpAnyH_take (i := 1) (oi := ⟨some 13, _, _, _, _, _⟩) (v := ?vh1_2) rfl (by kernel_rfl) (by kernel_rfl) (by kernel_rfl) (fun _ _ _ h => h) (Or.inl ⟨by kernel_rfl, ?hyh1_2⟩) (by assumption) ?resth1_2
    case hyh1_2 => (intro w99 hSw; (try dsimp only at hSw); obtain ⟨hs1, hs2⟩ := hSw; (try go_simp); (try with_reducible rfl); (try omega))
    simp only [Act.put, List.setIfInBounds_toArray, List.set_cons_zero, List.set_cons_succ]
    refine wpAnyH_take (i := 2) (oi := ⟨some 14, _, _, _, _, _⟩) (v := ?vh1_3) rfl (by kernel_rfl) (by kernel_rfl) (by kernel_rfl) (fun _ _ _ h => h) (Or.inl ⟨by kernel_rfl, ?hyh1_3⟩) (by assumption) ?resth1_3
    case hyh1_3 => (intro w99 hSw; (try dsimp only at hSw); obtain ⟨hs1, hs2⟩ := hSw; (try go_simp); (try with_reducible rfl); (try omega))
    simp only [Act.put, List.setIfInBounds_toArray, List.set_cons_zero, List.set_cons_succ]
    refine wpAnyH_take (i := 3) (oi := ⟨some 15, _, _, _, _, _⟩) (v := ?vh1_4) rfl (by kernel_rfl) (by kernel_rfl) (by kernel_rfl) (fun _ _ _ h => h) (Or.inl ⟨by kernel_rfl, ?hyh1_4⟩) (by assumption) ?resth1_4
    case hyh1_4 => (intro w99 hSw; (try dsimp only at hSw); obtain ⟨hs1, hs2⟩ := hSw; (try go_simp); (try with_reducible rfl); (try omega))
    simp only [Act.put, List.setIfInBounds_toArray, List.set_cons_zero, List.set_cons_succ]
    refine wpAnyH_take (i := 4) (oi := ⟨some 16, _, _, _, _, _⟩) (v := ?vh1_5) rfl (by kernel_rfl) (by kernel_rfl) (by kernel_rfl) (fun _ _ _ h => h) (Or.inl ⟨by kernel_rfl, ?hyh1_5⟩) (by assumption) ?resth1_5
    case hyh1_5 => (intro w99 hSw; (try dsimp only at hSw); obtain ⟨hs1, hs2⟩ := hSw; (try go_simp); (try with_reducible rfl); (try omega))
    simp only [Act.put, List.setIfInBounds_toArray, List.set_cons_zero, List.set_cons_succ]
    refine wpAnyH_take (i := 5) (oi := ⟨some 17, _, _, _, _, _⟩) (v := ?vh1_6) rfl (by kernel_rfl) (by kernel_rfl) (by kernel_rfl) (fun _ _ _ h => h) (Or.inl ⟨by kernel_rfl, ?hyh1_6⟩) (by assumption) ?resth1_6
    case hyh1_6 => (intro w99 hSw; (try dsimp only at hSw); obtain ⟨hs1, hs2⟩ := hSw; (try go_simp); (try with_reducible rfl); (try omega))
    simp only [Act.put, List.setIfInBounds_toArray, List.set_cons_zero, List.set_cons_succ]
    refine wpAnyH_take (i := 7) (oi := ⟨some 19, _, _, _, _, _⟩) (v := ?vh1_7) rfl (by kernel_rfl) (by kernel_rfl) (by kernel_rfl) (fun _ _ _ h => h) (Or.inl ⟨by kernel_rfl, ?hyh1_7⟩) (by assumption) ?resth1_7
    case hyh1_7 => (intro w99 hSw; (try dsimp only at hSw); obtain ⟨hs1, hs2⟩ := hSw; (try go_simp); (try with_reducible rfl); (try omega))
    simp only [Act.put, List.setIfInBounds_toArray, List.set_cons_zero, List.set_cons_succ]
    refine wpAnyH_take (i := 8) (oi := ⟨some 20, _, _, _, _, _⟩) (v := ?vh1_8) rfl (by kernel_rfl) (by kernel_rfl) (by kernel_rfl) (fun _ _ _ h => h) (Or.inl ⟨by kernel_rfl, ?hyh1_8⟩) (by assumption) ?resth1_8
    case hyh1_8 => (intro w99 hSw; (try dsimp only at hSw); obtain ⟨hs1, hs2⟩ := hSw; (try go_simp); (try with_reducible rfl); (try omega))
    simp only [Act.put, List.setIfInBounds_toArray, List.set_cons_zero, List.set_cons_succ]
    refine wpAnyH_take (i := 9) (oi := ⟨some 21, _, _, _, _, _⟩) (v := ?vh1_9) rfl (by kernel_rfl) (by kernel_rfl) (by kernel_rfl) (fun _ _ _ h => h) (Or.inl ⟨by kernel_rfl, ?hyh1_9⟩) (by assumption) ?resth1_9
    case hyh1_9 => (intro w99 hSw; (try dsimp only at hSw); obtain ⟨hs1, hs2⟩ := hSw; (try go_simp); (try with_reducible rfl); (try omega))
    simp only [Act.put, List.setIfInBounds_toArray, List.set_cons_zero, List.set_cons_succ]
    refine wpAnyH_take (i := 10) (oi := ⟨some 22, _, _, _, _, _⟩) (v := ?vh1_10) rfl (by kernel_rfl) (by kernel_rfl) (by kernel_rfl) (fun _ _ _ h => h) (Or.inl ⟨by kernel_rfl, ?hyh1_10⟩) (by assumption) ?resth1_10
    case hyh1_10 => (intro w99 hSw; (try dsimp only at hSw); obtain ⟨hs1, hs2⟩ := hSw; (try go_simp); (try with_reducible rfl); (try omega))
    simp only [Act.put, List.setIfInBounds_toArray, List.set_cons_zero, List.set_cons_succ]
    refine wpAnyH_ready (rs := [6]) (by kernel_rfl) (by simp) ?_
    refine AllReadyH.cons (o := ⟨some 18, _, _, _, _, _⟩) rfl (fun KQ hKQ => ?w6h1_11) AllReadyH.nil
    case w6h1_11 =>
      go_simp
      go_at_call 46
      have hz := CloneY_any w.drew f.b (SRC.out.kept ((Kept.refl [] w).drew) (by simp)) (by omega)
      with_reducible refine hz.mono ?_
      clear hz
      rintro e w2 ⟨v, rfl, hn⟩
      obtain ⟨A2, c2, rfl, _, _⟩ := hn.1.form
      have N2 := Lib.hid hn
      have K2 := Lib.hid (Kept.trans ((Kept.refl [] w).drew) hn.2.1 (by simp))
      clear hn
      go_wp2_with fail
      refine hKQ.out _ _ (⟨fun i => ((CV.out.var.kept K2.out (by simp))).cell i, fun i => by have := ((FB.out.kept K2.out (by simp))).cell i; rw [NB.out] at this; exact this⟩) (fun hHeld9 => ?_)
      clear hKQ KQ hHeld
      have hHeld := hHeld9
      clear hHeld9
      try simp only [Act.put, List.setIfInBounds_toArray, List.set_cons_zero, List.set_cons_succ]
      refine wpAnyH_take (i := 11) (oi := ⟨some 23, _, _, _, _, _⟩) (v := ?vh1_12) rfl (by kernel_rfl) (by kernel_rfl) (by kernel_rfl) (fun _ _ _ h => h) (Or.inl ⟨by kernel_rfl, ?hyh1_12⟩) (by assumption) ?resth1_12
      case hyh1_12 => (intro w99 hSw; (try dsimp only at hSw); obtain ⟨hs1, hs2⟩ := hSw; (try go_simp); (try with_reducible rfl); (try omega))
      simp only [Act.put, List.setIfInBounds_toArray, List.set_cons_zero, List.set_cons_succ]
      refine wpAnyH_ready (rs := [12]) (by kernel_rfl) (by simp) ?_
      refine AllReadyH.cons (o := ⟨some 24, _, _, _, _, _⟩) rfl (fun KQ hKQ => ?w12h1_13) AllReadyH.nil
      case w12h1_13 =>
        go_simp
        refine hKQ.out _ _ (⟨fun i => ((CV.out.var.kept K2.out (by simp)).alloc (.cells #[.slice A2 nb c2, .int .i64 (f.sure : Nat)] 71)).cell i, fun i => by have := ((FB.out.kept K2.out (by simp)).alloc (.cells #[.slice A2 nb c2, .int .i64 (f.sure : Nat)] 71)).cell i; rw [NB.out] at this; exact this⟩) (fun hHeld9 => ?_)
        clear hKQ KQ hHeld
        have hHeld := hHeld9
        clear hHeld9
        try simp only [Act.put, List.setIfInBounds_toArray, List.set_cons_zero, List.set_cons_succ]
        have CV3 := Lib.hid ((CV.out.go K2.out).go ((Kept.refl [] w2).alloc (.cells #[.slice A2 nb c2, .int .i64 (f.sure : Nat)] 71)))
        have FV3 := Lib.hid (show FileV (w2.alloc (.cells #[.slice A2 nb c2, .int .i64 (f.sure : Nat)] 71)) (some g) from fun g' hg => by obtain ⟨cs, hb⟩ := FV.out g' hg; exact ⟨cs, (hb.kept K2.out (by simp)).alloc _⟩)
        obtain ⟨w5, hrun, hm5, hk5⟩ := CV3.out.map.putW (ekP_key _) (fun p hp => (CV3.out.key p hp).2) Try.underlying90 (some g) FV3.out w2.heap.size
        have hrun' : (Instr.mapUpdate 90 (.map (some tb)) (.pointer (some ⟨g, 0, none⟩)) (.pointer (some ⟨w2.heap.size, 0, none⟩))).run Try.prog (w2.alloc (.cells #[.slice A2 nb c2, .int .i64 (f.sure : Nat)] 71)) = .ok () w5 := hrun
        have tl2 : tb < w2.heap.size := Nat.lt_of_lt_of_le CV.out.map.lt K2.out.size
        have K5 := Lib.hid hk5
        have M5 := Lib.hid hm5
        have G5 := Lib.hid (((FB.out.kept K2.out (by simp)).alloc _).kept hk5 (by simpa using fun e => htm.out e.symm))
        have V5 := Lib.hid (CV3.out.var.kept hk5 (by simpa using fun e => htv.out e.symm))
        have N5 := Lib.hid ((Blk.new w2 71 #[.slice A2 nb c2, .int .i64 (f.sure : Nat)]).kept hk5 (by simp; omega))
        clear hrun hm5 hk5
        refine wpAnyH_ready (rs := [13]) (by kernel_rfl) (by simp) ?_
        refine AllReadyH.cons (o := ⟨none, _, _, _, _, _⟩) rfl (fun KQ hKQ => ?w13h1_14) AllReadyH.nil
        case w13h1_14 =>
          go_simp
          refine hKQ.out _ _ (⟨fun i => V5.out.cell i, fun i => by have := G5.out.cell i; rw [NB.out] at this; exact this⟩) (fun hHeld9 => ?_)
          clear hKQ KQ hHeld
          have hHeld := hHeld9
          clear hHeld9
          try simp only [Act.put, List.setIfInBounds_toArray, List.set_cons_zero, List.set_cons_succ]
          refine wpAnyH_done (by kernel_rfl) ?_ _
          clear hHeld
          have C5 := Lib.hid (show CpV w5 vb tb (putM m (some g) w2.heap.size) from ⟨V5.out, M5.out, fun p hp => by
            have hcase : p ∈ m ∨ p.1 = some g := by
              unfold putM at hp
              split at hp
              · obtain ⟨q, hq, e⟩ := List.mem_map.1 hp
                split at e
                · right; rw [← e]
                · left; rw [← e]; exact hq
              · rcases List.mem_append.1 hp with h9 | h9
                · exact .inl h9
                · right; simp at h9; rw [h9]
            rcases hcase with h9 | h9
            · refine ⟨(CV3.out.key p h9).1, fun g' hg => ?_⟩
              obtain ⟨cs, hb⟩ := (CV3.out.key p h9).2 g' hg
              exact ⟨cs, hb.kept K5.out (by simpa using fun e => CV3.out.map.ne_blk hb e.symm)⟩
            · rw [h9]
              refine ⟨by simp, fun g' hg => ?_⟩
              injection hg with hg
              subst hg
              exact ⟨_, G5.out⟩⟩)
          have hlk5 := C5.out.look (o := some g) (fun g' hg => by injection hg with hg; subst hg; exact ⟨_, G5.out⟩)
          rw [getM_put, if_pos rfl] at hlk5
          have hlk6 : (Instr.lookup 90 (.map (some tb)) (.pointer (some ⟨g, 0, none⟩)) false).run Try.prog w5 = .ok (.pointer (some ⟨w2.heap.size, 0, none⟩)) w5 := hlk5
          have hx5 := V5.out.cell
          have hl5 := V5.out.lt
          clear hlk5 hrun' hx0 hg0
          go_wp2
          go_ret
          refine ⟨w2.heap.size, rfl, .inr ⟨HG.out, C5.out, (K2.out.mono (by simp) : Kept [tb] w w2).trans ((((Kept.refl [] w2).alloc _).mono (by simp) : Kept [tb] w2 _).trans K5.out (fun i hi => .inl hi)) (fun i hi => .inl hi), K2.out.size, A2, c2, ?_, ?_, fun k hk => ?_⟩⟩
          · rw [NB.out]; exact N5.out
          · rw [NB.out]
            exact (N2.out.1.kept ((Kept.refl [] w2).alloc _) (by simp)).kept K5.out (fun k hk hm => by
              simp at hm
              have h1 := N2.out.2.2 k hk
              have h2 := CV.out.map.lt
              have h3 : w.drew.heap.size = w.heap.size := rfl
              omega)
          · have hk' : k ∈ rowOf (.slice A2 nb c2) := by rw [NB.out] at hk; exact hk
            have h1 := N2.out.2.2 k hk'
            have h2 := N2.out.1.lt k hk'
            have h3 : w.drew.heap.size = w.heap.size := rfl
            exact ⟨by omega, by omega⟩
end Go.Proofs.Ythdjdfdefibepaa
