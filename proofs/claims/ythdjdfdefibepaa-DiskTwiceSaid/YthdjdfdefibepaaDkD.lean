
/-
  The disk: a change of names done, and kept.
-/
import Derived.Test.YthdjdfdefibepaaDkC
namespace Go.Proofs.Ythdjdfdefibepaa
open Go.RowKit Go.ChangeShapes Go.WideShapes Go.ChangeAt Go.Deep Go.MapKept
set_option linter.unusedVariables false

theorem look_ekS {w : World} {fb : List Nat} {b : Nat} {m : List (Bs × Nat)} (h : MapB ekS (evF fb) w b m) (x : Bs) : (Instr.lookup 61 (.map (some b)) (.string (strOf x)) false).run Try.prog w = .ok (.pointer ((getM m x).map fun i => ⟨fbA fb i, 0, none⟩)) w := by
  have := h.look ekS_fam Try.underlying61 (z := .pointer none) (by have h1 := Try.underlying69; go_simp) false x
  have e : ((getM m x).map (evF fb)).getD (.pointer none) = .pointer ((getM m x).map fun i => ⟨fbA fb i, 0, none⟩) := by
    cases getM m x <;> rfl
  rw [if_neg (by simp), e] at this
  exact this
theorem del_ekS {w : World} {fb : List Nat} {b : Nat} {m : List (Bs × Nat)} (h : MapB ekS (evF fb) w b m) (x : Bs) : ∃ w', (Builtin.delete_ #[61, 9] 0 #[.map (some b), .string (strOf x)]).run Try.prog w = .ok (.tuple #[]) w' ∧ MapB ekS (evF fb) w' b (delM m x) ∧ Kept [b] w w' :=
  h.del ekS_fam Try.underlying61 0 x
set_option maxRecDepth 100000 in
set_option maxHeartbeats 3200000 in
theorem do_any (w : World) (fb : List Nat) (b : Nat) (m : List (Bs × Nat)) (h : MapB ekS (evF fb) w b m) (c : ChD) {n : Nat} (hc : okC n m c) :
    Calls Try.prog 45 #[.agg (chC fb c).toArray, .map (some b)] w fun e w' => e = .returned (.tuple #[]) ∧ MapB ekS (evF fb) w' b (doD m c) ∧ Kept [b] w w' := by
  obtain ⟨kind, name, tn, f⟩ := c
  have K0 := Lib.hid ((Kept.refl [] w).alloc (.cells #[.int .i64 kind, .string (strOf name), .string (strOf tn), .pointer (f.map fun i => ⟨fbA fb i, 0, none⟩)] 76))
  have X0 := Lib.hid (Blk.new w 76 #[.int .i64 kind, .string (strOf name), .string (strOf tn), .pointer (f.map fun i => ⟨fbA fb i, 0, none⟩)])
  have M0 := Lib.hid (h.kept K0.out (by simp))
  have hlt := h.lt
  clear h
  show Calls Try.prog 45 #[.agg #[.int .i64 kind, .string (strOf name), .string (strOf tn), .pointer (f.map fun i => ⟨fbA fb i, 0, none⟩)], .map (some b)] w _
  rcases hc with ⟨hk, i, hf, hi⟩ | ⟨hk, hf, hs, hne⟩ | ⟨hk, hf⟩
  · simp only at hk hf
    subst hk hf
    have HD := Lib.hid (show doD m ⟨1, name, tn, some i⟩ = putM m name i by unfold doD; rw [if_pos rfl])
    simp only [Option.map_some] at K0 X0 M0 ⊢
    generalize hg : fbA fb i = g at *
    have HG := Lib.hid (show evF fb i = .pointer (some ⟨g, 0, none⟩) by unfold evF; rw [hg])
    clear hg
    go_enter Try.func45, Try.ntmps45
    go_upto_region 1 with fail
    generalize w.alloc (.cells #[.int .i64 1, .string (strOf name), .string (strOf tn), .pointer (some ⟨g, 0, none⟩)] 76) = w1 at *
    have hx := X0.out.cell
    go_wp2_with (first
      | (at_mapUpdate
         apply wpList_putM w1 rfl (.tmp 8) (.tmp 10) (.tmp 12) 61 rfl ekS_fam Try.underlying61 (h := M0.out) (key := name) (val := i)
         case hm => exact rfl
         case hx => exact rfl
         case hv => exact HG.out.symm
         intro w2 hm2 hk2
         have M2 := Lib.hid hm2
         have K2 := Lib.hid ((K0.out.mono (by simp)).trans hk2 (fun i hi => .inl hi))
         have hx2 := (X0.out.kept hk2 (by simp; omega)).cell
         clear hm2 hk2 hx))
    go_end0
    exact ⟨rfl, by rw [HD.out]; exact M2.out, K2.out⟩
  · simp only at hk hf hs hne
    subst hk hf
    obtain ⟨i, hi⟩ := Option.isSome_iff_exists.1 hs
    have HD := Lib.hid (show doD m ⟨2, name, tn, none⟩ = delM (putM m tn i) name by unfold doD; rw [if_neg (by simp), if_pos rfl]; simp only [hi])
    simp only [Option.map_none] at K0 X0 M0 ⊢
    have hlk := look_ekS M0.out name
    rw [hi] at hlk
    simp only [Option.map_some] at hlk
    generalize hg : fbA fb i = g at *
    have HG := Lib.hid (show evF fb i = .pointer (some ⟨g, 0, none⟩) by unfold evF; rw [hg])
    clear hg hi hs hne
    go_enter Try.func45, Try.ntmps45
    go_upto_region 1 with fail
    generalize w.alloc (.cells #[.int .i64 2, .string (strOf name), .string (strOf tn), .pointer none] 76) = w1 at *
    have hx := X0.out.cell
    go_wp2_with (first
      | (at_mapUpdate
         apply wpList_putM w1 rfl (.tmp 15) (.tmp 17) (.tmp 21) 61 rfl ekS_fam Try.underlying61 (h := M0.out) (key := tn) (val := i)
         case hm => exact rfl
         case hx => exact rfl
         case hv => exact HG.out.symm
         intro w2 hm2 hk2
         have M2 := Lib.hid hm2
         have K2 := Lib.hid ((K0.out.mono (by simp)).trans hk2 (fun i hi => .inl hi))
         have hx2 := (X0.out.kept hk2 (by simp; omega)).cell
         obtain ⟨w3, hr3, hm3, hk3⟩ := del_ekS hm2 name
         have M3 := Lib.hid hm3
         have K3 := Lib.hid (K2.out.trans hk3 (fun i hi => .inl hi))
         clear hm2 hk2 hx hlk hm3 hk3))
    go_end0
    exact ⟨rfl, by rw [HD.out]; exact M3.out, K3.out⟩
  · simp only at hk hf
    subst hk hf
    have HD := Lib.hid (show doD m ⟨3, name, tn, none⟩ = delM m name by unfold doD; rw [if_neg (by simp), if_neg (by simp), if_pos rfl])
    simp only [Option.map_none] at K0 X0 M0 ⊢
    go_enter Try.func45, Try.ntmps45
    go_upto_region 1 with fail
    generalize w.alloc (.cells #[.int .i64 3, .string (strOf name), .string (strOf tn), .pointer none] 76) = w1 at *
    have hx := X0.out.cell
    obtain ⟨w3, hr3, hm3, hk3⟩ := del_ekS M0.out name
    have M3 := Lib.hid hm3
    have K3 := Lib.hid ((K0.out.mono (by simp)).trans hk3 (fun i hi => .inl hi))
    clear hm3 hk3
    go_wp2
    go_end0
    exact ⟨rfl, by rw [HD.out]; exact M3.out, K3.out⟩
section
variable {w w' : World} {G S : List Nat} {p : Nat} {fb : List Nat} {D : DkD} {bn bs : Nat} {A : Option Addr} {m c : Nat}
theorem DkX.othr_row (h : DkX w G p fb D bn bs A m c) : ∀ k ∈ rowOf (.slice A m c), Othr w k := Othr.of_row h.row (by decide) (by decide)
theorem DkX.row_ne (h : DkX w G p fb D bn bs A m c) : p ∉ rowOf (.slice A m c) ∧ bn ∉ rowOf (.slice A m c) ∧ bs ∉ rowOf (.slice A m c) := by
  refine ⟨fun hm => h.row.ne_blk h.blk (by decide) hm, fun hm => ?_, fun hm => ?_⟩
  · obtain ⟨cs, hb⟩ := h.row.row_blk _ hm
    exact h.now.ne_blk hb rfl
  · obtain ⟨cs, hb⟩ := h.row.row_blk _ hm
    exact h.sur.ne_blk hb rfl
/-- its row of changes has become another one -/
theorem DkX.rows (h : DkX w G p fb D bn bs A m c) (hk : Kept (rowOf (.slice A m c)) w w') {A' : Option Addr} {m' c' : Nat} {l : List ChD} (ho : Own w' 76 4 (.slice A' m' c') l.length (chsC fb l)) (hr : ∀ k ∈ rowOf (.slice A' m' c'), k ∈ rowOf (.slice A m c) ∨ w.heap.size ≤ k) :
    DkX (w'.setCell ⟨p, 3, none⟩ (.slice A' m' c')) (rowOf (.slice A' m' c') ++ G) p fb { D with ch := l } bn bs A' m' c' := by
  obtain ⟨n1, n2, n3⟩ := h.row_ne
  have hb1 := h.blk.kept hk n1
  have hp := hb1.lt
  have k2 : Kept [p] w' (w'.setCell ⟨p, 3, none⟩ (.slice A' m' c')) := (Kept.refl _ _).setCell (.inl (by simp)) _
  have hb2 : Blk (w'.setCell ⟨p, 3, none⟩ (.slice A' m' c')) p 64 #[.int .i64 D.quota, .map (some bn), .map (some bs), .slice A' m' c', .int .i64 D.ops, .int .i64 D.fail] := hb1.set 3 _
  have hnow := h.now.kept hk n2
  have hsur := h.sur.kept hk n3
  have hS : ∀ k ∈ [p], Othr w' k := fun k hk' => by
    obtain rfl : k = p := by simpa using hk'
    exact Othr.of_blk hb1 (by decide) (by decide)
  refine ⟨hb2, hnow.kept k2 (by simpa using fun e => hnow.ne_blk hb1 e), hsur.kept k2 (by simpa using fun e => hsur.ne_blk hb1 e), h.ne, ho.kept k2 (fun k hk' hm => by
    obtain rfl : k = p := by simpa using hm
    exact ho.ne_blk hb1 (by decide) hk'), ((h.fs.kept hk h.othr_row).kept k2 hS).mono (fun k hk' => List.mem_append_right _ hk'), List.mem_append_right _ h.inn, List.mem_append_right _ h.ins, List.mem_append_right _ h.inp, fun k hk' => List.mem_append_left _ hk', fun k hk' => ?_⟩
  rcases List.mem_append.1 hk' with hk' | hk'
  · exact Nat.lt_of_lt_of_le (ho.lt k hk') k2.size
  · exact Nat.lt_of_lt_of_le (h.lt k hk') (Nat.le_trans hk.size k2.size)
/-- names as they are have become others -/
theorem DkX.nows (h : DkX w G p fb D bn bs A m c) (hk : Kept [bn] w w') {l : List (Bs × Nat)} (hm : MapB ekS (evF fb) w' bn l) : DkX w' G p fb { D with now := l } bn bs A m c := by
  have hS : ∀ k ∈ [bn], Othr w k := fun k hk' => by
    obtain rfl : k = bn := by simpa using hk'
    exact Othr.of_map h.now
  exact ⟨h.blk.kept hk (by simpa using fun e => h.now.ne_blk h.blk e.symm), hm, h.sur.kept hk (by simpa using fun e => h.ne e.symm), h.ne, h.row.kept hk (fun k hk' hm' => by
    obtain rfl : k = bn := by simpa using hm'
    exact h.row_ne.2.1 hk'), h.fs.kept hk hS, h.inn, h.ins, h.inp, h.inr, fun k hk' => Nat.lt_of_lt_of_le (h.lt k hk') hk.size⟩
end
theorem info_chg : (Try.prog.info? 76).map (fun i => (i.zero, i.size, i.bytes)) = some (some (.agg #[.int .i64 0, .string .empty, .string .empty, .pointer none]), 4, 48) := by kernel_rfl
theorem elem_chg : Elem Try.prog 62 76 4 48 := Elem.mk' Try.underlying62 info_chg rfl (by omega)
/-- a disk after something was done to it -/
def DkTo (w : World) (G : List Nat) (p : Nat) (fb : List Nat) (D : DkD) (w' : World) : Prop := ∃ G' bn bs A m c, DkX w' G' p fb D bn bs A m c ∧ Kept G w w' ∧ ∀ k ∈ G', k ∈ G ∨ w.heap.size ≤ k
theorem DkTo.chg {w w2 wa w3 : World} {G : List Nat} {p : Nat} {fb : List Nat} {D' : DkD} {bn bs : Nat} {A A3 : Option Addr} {m c m3 c3 : Nat} {l : List ChD} (h : DkX w2 G p fb D' bn bs A m c) (ha : Kept [] w2 wa) (h2 : Kept G w w2) (hk : Kept (rowOf (.slice A m c)) wa w3)
    (ho : Own w3 76 4 (.slice A3 m3 c3) l.length (chsC fb l)) (hr : ∀ k ∈ rowOf (.slice A3 m3 c3), k ∈ rowOf (.slice A m c) ∨ wa.heap.size ≤ k) : DkTo w G p fb { D' with ch := l } (w3.setCell ⟨p, 3, none⟩ (.slice A3 m3 c3)) := by
  refine ⟨_, _, _, _, _, _, (h.go ha).rows hk ho hr, ((h2.trans ha (by simp)).trans hk (fun i hi => .inl (h.inr i hi))).trans ((Kept.refl [p] w3).setCell (.inl (by simp)) _) (fun i hi => .inl (by simp at hi; subst hi; exact h.inp)), fun k hk' => ?_⟩
  rcases List.mem_append.1 hk' with hk' | hk'
  · rcases hr k hk' with h3 | h3
    · exact .inl (h.inr k h3)
    · have := h2.size; have := ha.size; exact .inr (by omega)
  · exact .inl hk'
set_option maxRecDepth 100000 in
set_option maxHeartbeats 3200000 in
theorem change_any {w : World} {G : List Nat} {p : Nat} {fb : List Nat} {D : DkD} {bn bs : Nat} {A : Option Addr} {m c : Nat} (h : DkX w G p fb D bn bs A m c) (cc : ChD) {n : Nat} (hc : okC n D.now cc) (hl : D.ch.length ≤ 1000000) :
    Calls Try.prog 41 #[.pointer (some ⟨p, 0, none⟩), .agg (chC fb cc).toArray] w fun e w' => e = .returned (.tuple #[]) ∧ DkTo w G p fb (chgD D cc) w' := by
  obtain ⟨kind, name, tn, f⟩ := cc
  obtain ⟨pv, hpv⟩ : ∃ v, Value.pointer (f.map fun i => ⟨fbA fb i, 0, none⟩) = v := ⟨_, rfl⟩
  have hpo : pv.oneCell' = true := by rw [← hpv]; rfl
  have HCC := Lib.hid (show chC fb ⟨kind, name, tn, f⟩ = [.int .i64 kind, .string (strOf name), .string (strOf tn), pv] by rw [← hpv]; rfl)
  have DO := Lib.hid (fun (w' : World) (hm : MapB ekS (evF fb) w' bn D.now) => show Calls Try.prog 45 #[.agg #[.int .i64 kind, .string (strOf name), .string (strOf tn), pv], .map (some bn)] w' fun e w2 => e = .returned (.tuple #[]) ∧ MapB ekS (evF fb) w2 bn (doD D.now ⟨kind, name, tn, f⟩) ∧ Kept [bn] w' w2 from by
    have := do_any w' fb bn D.now hm ⟨kind, name, tn, f⟩ hc
    rw [HCC.out] at this
    exact this)
  rw [HCC.out]
  have K0 := Lib.hid ((Kept.refl [] w).alloc (.cells #[.int .i64 kind, .string (strOf name), .string (strOf tn), pv] 76))
  have X0 := Lib.hid (Blk.new w 76 #[.int .i64 kind, .string (strOf name), .string (strOf tn), pv])
  have D0 := Lib.hid (h.go K0.out)
  have HG := Lib.hid (fun k hk => h.lt k hk)
  have L := Lib.hid hl
  clear h hc hl hpv
  go_enter Try.func41, Try.ntmps41
  go_upto_region 1 with fail
  have hs0 : w.heap.size < (w.alloc (.cells #[.int .i64 kind, .string (strOf name), .string (strOf tn), pv] 76)).heap.size := by simp
  generalize w.alloc (.cells #[.int .i64 kind, .string (strOf name), .string (strOf tn), pv] 76) = w1 at *
  have hx := X0.out.cell
  have hc := D0.out.blk.cell
  have hpl := D0.out.blk.lt
  have D1 := Lib.hid (D0.out.go ((Kept.refl [] w1).drew))
  go_region_law ((first
    | (go_simp
       go_at_call 45
       with_reducible refine (DO.out w1.drew D1.out.now).mono ?_
       go_must (rintro e w2 ⟨rfl, hm2, hk2⟩)
       go_must (have D2 := Lib.hid (D1.out.nows hk2 hm2))
       go_must (have X2 := Lib.hid ((X0.out.kept ((Kept.refl [] w1).drew) (by simp)).kept hk2 (by have := HG.out bn D1.out.inn; simp; omega)))
       go_must (have K2 := Lib.hid (((K0.out.drew).mono (by simp) : Kept G w w1.drew).trans hk2 (fun i hi => .inl (by simp at hi; subst hi; exact D1.out.inn))))
       clear hm2 hk2)))
  all_goals
    clear hx hc hpl
    have hx2 := X2.out.cell
    have hc2 := D2.out.blk.cell
    have hf2 := D2.out.blk.frozen
    have hl2 := D2.out.blk.lt
    have hca : ∀ obj o, (w2.alloc obj).cell? ⟨p, o, none⟩ = (#[.int .i64 D.quota, .map (some bn), .map (some bs), .slice A m c, .int .i64 D.ops, .int .i64 D.fail] : Array Value)[o]? := fun obj => (D2.out.blk.alloc obj).cell
    have hxa : ∀ obj o, (w2.alloc obj).cell? ⟨w.heap.size, o, none⟩ = (#[.int .i64 kind, .string (strOf name), .string (strOf tn), pv] : Array Value)[o]? := fun obj => (X2.out.alloc obj).cell
    have hlen : D.ch.length + 1 ≤ maxLen := by have := L.out; unfold maxLen; omega
    have hby : (D.ch.length + 1) * 48 ≤ 140737488355328 := by have := L.out; omega
    have HON := Lib.hid (show ∀ u ∈ [Value.int .i64 kind, .string (strOf name), .string (strOf tn), pv], u.oneCell' = true by
      intro u hu
      simp at hu
      rcases hu with rfl | rfl | rfl | rfl
      · rfl
      · rfl
      · rfl
      · exact hpo)
    clear hpo
    go_upto_region 2 with fail
    go_region_law ((first
      | (refine step_app _ rfl (.tmp 14) (.tmp 16) 62 rfl elem_chg (by simp [Act.eval]) (D2.out.row.drew.alloc _) (by simp [Act.eval]; rfl) (Rd.laid _ [.int .i64 kind, .string (strOf name), .string (strOf tn), pv] _) rfl HON.out hlen hby ?_
         intro v3 w3 ho3 hk3 hr3
         obtain ⟨A3, m3, c3, rfl⟩ := Own.form' ho3
         go_must (have hb3 := ((D2.out.blk.drew).alloc _).kept hk3 D2.out.row_ne.1)
         go_must (have hc3 := hb3.cell)
         go_must (have hf3 := hb3.frozen)
         go_must (have hl3 := hb3.lt)
         have O3 := Lib.hid ho3
         have K3 := Lib.hid hk3
         have R3 := Lib.hid hr3
         clear ho3 hk3 hr3 hb3)))
    all_goals
      go_end0
      refine ⟨rfl, ?_⟩
      have ho : Own w3 76 4 (.slice A3 m3 c3) (D.ch ++ [(⟨kind, name, tn, f⟩ : ChD)]).length (chsC fb (D.ch ++ [(⟨kind, name, tn, f⟩ : ChD)])) := by
        have e1 : chsC fb [(⟨kind, name, tn, f⟩ : ChD)] = [.int .i64 kind, .string (strOf name), .string (strOf tn), pv] := by
          show ([(⟨kind, name, tn, f⟩ : ChD)].map (chC fb)).flatten = _
          rw [List.map_cons, List.map_nil, HCC.out]; rfl
        rw [chsC_app, e1, List.length_append]
        exact O3.out
      first
        | exact DkTo.chg D2.out ((Kept.refl [] w2).drew.alloc _) K2.out K3.out ho R3.out
        | exact DkTo.chg D2.out ((Kept.refl [] w2).alloc _).drew K2.out K3.out ho R3.out
end Go.Proofs.Ythdjdfdefibepaa
