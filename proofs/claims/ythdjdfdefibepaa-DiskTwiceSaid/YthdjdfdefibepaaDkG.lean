
/-
  The disk: New, Fail, Ops, Quota, SyncDir, Read.
-/
import Derived.Test.YthdjdfdefibepaaDkF
import Derived.Test.YthdjdfdefibepaaShelf
import Derived.Shelf.SlMaps.Clone
namespace Go.Proofs.Ythdjdfdefibepaa
open Go.RowKit Go.ChangeShapes Go.WideShapes Go.ChangeAt Go.Deep Go.MapKept
set_option linter.unusedVariables false

theorem CloneP_any {w : World} {fb : List Nat} {b : Nat} {m : List (Bs × Nat)} (h : MapB ekS (evF fb) w b m) : Calls Try.prog 43 #[.map (some b)] w fun e w' => e = .returned (.map (some w.heap.size)) ∧ MapB ekS (evF fb) w' w.heap.size m ∧ Kept [] w w' := by
  obtain ⟨⟨es, clock, hb, hr⟩, hn⟩ := h
  refine (AnyW.maps_Clone Try.cloneP b es clock w hb).mono ?_
  rintro e w' ⟨rfl, rfl⟩
  exact ⟨rfl, ⟨⟨es, clock, (MapKept.heap_alloc w _).1, hr⟩, hn⟩, (Kept.refl [] w).alloc _⟩
theorem CloneY_any (w : World) {G : List Nat} {A : Option Addr} {m c : Nat} (cs : Bs) (h : RdB w G (.slice A m c) cs) (hm : m ≤ 1000000000) :
    Calls Try.prog 46 #[.slice A m c] w fun e w' => ∃ v, e = .returned v ∧ New w 5 1 v m (u8s cs) w' := by
  obtain ⟨l1, l2, l3, l4⟩ := h.len
  cases A with
  | none =>
    obtain ⟨rfl, rfl⟩ := l4 rfl
    obtain rfl : cs = [] := List.eq_nil_of_length_eq_zero l1
    have hq := eql_nil8
    clear h l1 l2 l3 l4
    go_enter Try.func46, Try.ntmps46
    go_wp2
    go_ret
    exact ⟨_, rfl, Own.nil _ _ _, Kept.refl _ _, by simp [rowOf, Value.ownBlock]⟩
  | some a =>
    have H := Lib.hid (h.kept ((Kept.refl [] w).alloc (.cells #[] 5)) (by simp))
    have L := Lib.hid l1
    have hq := eql_nil8
    clear h l1 l2 l3 l4
    go_enter Try.func46, Try.ntmps46
    go_wp2_with (at_builtin
                 refine wpList_app _ rfl (.tmp 5) (.tmp 6) 28 rfl elem_u8 (by rfl) (World.ownsRow_made w #[] 0 (Nat.zero_le _) (by unfold maxLen; omega) rfl) (by rfl) H.out.rd (by rw [u8s_len, L.out, Nat.mul_one]) (u8s_one _) (by unfold maxLen; omega) (by omega) ?_
                 intro v2 w2 ho2 hk2 hr2
                 have N2 := Lib.hid (show New w 5 1 v2 m (u8s cs) w2 from ⟨by simpa using ho2, ((Kept.refl [] w).alloc _).trans hk2 (fun i hi => .inr (by simp [rowOf, Value.ownBlock] at hi; omega)), fun k hk' => (hr2 k hk').elim (fun h3 => by simp [rowOf, Value.ownBlock] at h3; omega) (fun h3 => by simp at h3; omega)⟩)
                 clear ho2 hk2 hr2)
    go_ret
    exact ⟨v2, rfl, N2.out⟩
section
variable {w : World} {G : List Nat} {p : Nat} {fb : List Nat} {D : DkD} {bn bs : Nat} {A : Option Addr} {m c : Nat}
theorem Ops_any (h : DkX w G p fb D bn bs A m c) : Calls Try.prog 20 #[.pointer (some ⟨p, 0, none⟩)] w fun e w' => e = .returned (.int .i64 D.ops) ∧ w' = w := by
  have hc := h.blk.cell
  have hl := h.blk.lt
  clear h
  go_enter Try.func20, Try.ntmps20
  go_wp2
  go_ret
  exact ⟨rfl, rfl⟩
theorem Quota_any (h : DkX w G p fb D bn bs A m c) : Calls Try.prog 34 #[.pointer (some ⟨p, 0, none⟩)] w fun e w' => e = .returned (.int .i64 D.quota) ∧ w' = w := by
  have hc := h.blk.cell
  have hl := h.blk.lt
  clear h
  go_enter Try.func34, Try.ntmps34
  go_wp2
  go_ret
  exact ⟨rfl, rfl⟩
set_option maxHeartbeats 1600000 in
theorem Fail_any (h : DkX w G p fb D bn bs A m c) (h0 : 0 ≤ D.ops) (ho : D.ops ≤ 1000000) (n : Int) : Calls Try.prog 19 #[.pointer (some ⟨p, 0, none⟩), .int .i64 n] w fun e w' => e = .returned (.tuple #[]) ∧ DkX w' G p fb (faiD D n) bn bs A m c ∧ Kept [p] w w' := by
  have H := Lib.hid h
  have hc := h.blk.cell
  have hf := h.blk.frozen
  have hl := h.blk.lt
  have B1 := Lib.hid (show Blk (w.setCell ⟨p, 5, none⟩ (.int .i64 0)) p 64 #[.int .i64 D.quota, .map (some bn), .map (some bs), .slice A m c, .int .i64 D.ops, .int .i64 0] from h.blk.set 5 _)
  have K1 := Lib.hid ((Kept.refl [p] w).setCell (p := ⟨p, 5, none⟩) (.inl (by simp)) (.int .i64 0))
  clear h
  go_enter Try.func19, Try.ntmps19
  go_upto_region 2 with fail
  clear hc hf hl
  generalize w.setCell ⟨p, 5, none⟩ (.int .i64 0) = w1 at *
  have hc := B1.out.cell
  have hf := B1.out.frozen
  have hl := B1.out.lt
  by_cases hn : 1 ≤ n ∧ n ≤ 4611686018427387904
  · have HD := Lib.hid (show faiD D n = { D with fail := D.ops + n } by unfold faiD; rw [if_pos hn])
    obtain ⟨i1, i2⟩ := hn
    have iw : IntKind.i64.wrap (D.ops + n) = D.ops + n := IntWalk.i64_in _ (by omega)
    go_wp2
    go_end0
    exact ⟨rfl, by rw [HD.out]; exact H.out.nums (K1.out.setCell (.inl (by simp)) _) (B1.out.set 5 _), K1.out.setCell (.inl (by simp)) _⟩
  · have HD := Lib.hid (show faiD D n = { D with fail := 0 } by unfold faiD; rw [if_neg hn])
    have hways : ¬ 1 ≤ n ∨ (1 ≤ n ∧ ¬ n ≤ 4611686018427387904) := by omega
    clear hn
    rcases hways with i1 | ⟨i1, i2⟩
    all_goals
      go_wp2
      go_end0
      exact ⟨rfl, by rw [HD.out]; exact H.out.nums K1.out B1.out, K1.out⟩
theorem Own.nil4 (w : World) : Own w 76 4 (.slice none 0 0) ([] : List ChD).length (chsC fb []) := Own.nil _ _ _
/-- all changes are sure -/
theorem DkX.sure {w' w2 : World} (h : DkX w G p fb D bn bs A m c) (hk : Kept [] w w') {b : Nat} (hb : b = w.heap.size) (hm : MapB ekS (evF fb) w' b D.now) (hB : Blk w2 p 64 #[.int .i64 D.quota, .map (some bn), .map (some b), .slice none 0 0, .int .i64 D.ops, .int .i64 D.fail]) (hk2 : Kept [p] w' w2) :
    DkX w2 (b :: G) p fb { D with sur := D.now, ch := [] } bn b none 0 0 := by
  have h' := h.go hk
  have hbp : b ≠ p := fun e => by have := h.lt p h.inp; omega
  have hS : ∀ k ∈ [p], Othr w' k := fun k hk' => by
    obtain rfl : k = p := by simpa using hk'
    exact Othr.of_blk h'.blk (by decide) (by decide)
  refine ⟨hB, h'.now.kept hk2 (by simpa using fun e => h'.now.ne_blk h'.blk e), hm.kept hk2 (by simpa using hbp), fun e => by have := h.lt bn h.inn; omega, Own.nil4 w2, (h'.fs.kept hk2 hS).mono (fun k hk' => List.mem_cons_of_mem _ hk'), List.mem_cons_of_mem _ h.inn, List.mem_cons_self, List.mem_cons_of_mem _ h.inp, by simp [rowOf, Value.ownBlock], fun k hk' => ?_⟩
  rcases List.mem_cons.1 hk' with rfl | hk'
  · exact Nat.lt_of_lt_of_le hm.lt hk2.size
  · exact Nat.lt_of_lt_of_le (h'.lt k hk') hk2.size
set_option maxRecDepth 100000 in
set_option maxHeartbeats 1600000 in
theorem SyncDir_any (h : DkX w G p fb D bn bs A m c) (ok : OkI D) (ho : D.ops ≤ 1000000) : Calls Try.prog 22 #[.pointer (some ⟨p, 0, none⟩)] w fun e w' => e = .returned (.int .i64 (sdrD D).1) ∧ DkOp w G p (sdrD D).2 w' := by
  have BG := Lib.hid (begin_any h ok.ops ho)
  obtain ⟨sm1, sm2, sm3, sm4, sm5, sm6⟩ := beg_same D
  have SM := Lib.hid sm2
  have HIN := Lib.hid h.inp
  rcases beg_cases D with ⟨hbe, he⟩ | ⟨hbe, he⟩
  · have HE := Lib.hid hbe
    have HA := Lib.hid (show sdrD D = begD D by unfold sdrD; rw [if_pos (by rw [hbe]; decide)])
    clear h ok hbe he sm1 sm2 sm3 sm4 sm5 sm6
    go_enter Try.func22, Try.ntmps22
    go_wp2_with (first
      | (go_at_call 38
         refine BG.out.mono ?_
         rintro e w1 ⟨rfl, hx1, hk1⟩
         rw [HE.out]
         have X1 := Lib.hid hx1
         have K1 := Lib.hid (hk1.mono (fun i hi => by simp at hi; subst hi; exact .inl HIN.out) : Kept G w w1)
         clear hx1 hk1))
    go_ret
    exact ⟨by rw [HA.out, HE.out]; rfl, by rw [HA.out]; exact ⟨fb, DkTo.of X1.out K1.out⟩⟩
  have HE := Lib.hid hbe
  have HA := Lib.hid (show sdrD D = (0, { (begD D).2 with sur := (begD D).2.now, ch := [] }) by unfold sdrD; rw [if_neg (by rw [hbe]; simp), sm2])
  clear h ok hbe he sm1 sm2 sm3 sm4 sm5 sm6
  go_enter Try.func22, Try.ntmps22
  go_wp2_with (first
    | (go_at_call 38
       refine BG.out.mono ?_
       rintro e w1 ⟨rfl, hx1, hk1⟩
       rw [HE.out]
       have X1 := Lib.hid hx1
       have K1 := Lib.hid (hk1.mono (fun i hi => by simp at hi; subst hi; exact .inl HIN.out) : Kept G w w1)
       have hc := hx1.blk.cell
       have hl := hx1.blk.lt
       clear hx1 hk1)
    | (go_at_call 43
       refine (CloneP_any X1.out.now).mono ?_
       rintro e w2 ⟨rfl, hm2, hk2⟩
       have M2 := Lib.hid hm2
       have K2 := Lib.hid hk2
       have B2 := Lib.hid (X1.out.blk.kept hk2 (by simp))
       have hc2 := B2.out.cell
       have hf2 := B2.out.frozen
       have hl2 := B2.out.lt
       clear hm2 hk2 hc hl))
  go_ret
  refine ⟨by rw [HA.out]; rfl, ?_⟩
  rw [HA.out]
  have kE : Kept [p] w2 ((w2.setCell ⟨p, 2, none⟩ (.map (some w1.heap.size))).setCell ⟨p, 3, none⟩ (.slice none 0 0)) := ((Kept.refl _ _).setCell (.inl (by simp)) _).setCell (.inl (by simp)) _
  have hX := X1.out.sure K2.out rfl M2.out ((B2.out.set 2 (.map (some w1.heap.size))).set 3 (.slice none 0 0)) kE
  refine ⟨fb, _, _, _, _, _, _, hX, (K1.out.trans K2.out (by simp)).trans kE (fun k hk => .inl (by simp at hk; subst hk; exact HIN.out)), fun k hk => ?_⟩
  rcases List.mem_cons.1 hk with rfl | hk
  · exact .inr K1.out.size
  · exact .inl hk
set_option maxRecDepth 100000 in
set_option maxHeartbeats 1600000 in
theorem Read_any (h : DkX w G p fb D bn bs A m c) (ok : OkI D) (x : Bs) : Calls Try.prog 25 #[.pointer (some ⟨p, 0, none⟩), .string (strOf x)] w fun e w' => Kept [] w w' ∧ ((reaD D x = none ∧ e = .returned (.tuple #[.slice none 0 0, .bool false])) ∨ ∃ b A2 m2 c2, reaD D x = some b ∧ e = .returned (.tuple #[.slice A2 m2 c2, .bool true]) ∧ New w 5 1 (.slice A2 m2 c2) b.length (u8s b) w') := by
  have hlk := h.look x
  have hc := h.blk.cell
  have hl := h.blk.lt
  cases hg : getM D.now x with
  | none =>
    have HR := Lib.hid (show reaD D x = none by unfold reaD; rw [hg]; rfl)
    rw [hg] at hlk
    simp only [Option.map_none] at hlk
    clear h ok hg
    go_enter Try.func25, Try.ntmps25
    go_wp2
    go_ret2
    exact ⟨Kept.refl _ _, .inl ⟨HR.out, rfl⟩⟩
  | some i =>
    have hi := ok.now (x, i) (getM_mem hg)
    obtain ⟨f, hf⟩ : ∃ f, D.files[i]? = some f := ⟨_, List.getElem?_eq_getElem hi⟩
    have HR := Lib.hid (show reaD D x = some f.b by unfold reaD; rw [hg]; simp [hf])
    obtain ⟨A2, c2, _, hgG, hfb, hfo, hfr⟩ := h.fs.get hf
    have FO := Lib.hid (RdB.of_own hfo)
    have FL := Lib.hid (ok.sure f (List.mem_of_getElem? hf)).2
    rw [hg] at hlk
    simp only [Option.map_some] at hlk
    have hc2 := hfb.cell
    have hl2 := hfb.lt
    generalize fbA fb i = g at *
    clear h ok hg hf hi hfb hfo hfr hgG
    go_enter Try.func25, Try.ntmps25
    go_wp2_with (first
      | (go_at_call 46
         refine (CloneY_any w f.b FO.out (by have := FL.out; omega)).mono ?_
         rintro e w2 ⟨v, rfl, hn⟩
         obtain ⟨A3, c3, rfl, _, _⟩ := hn.1.form
         have N2 := Lib.hid hn
         clear hn))
    go_ret2
    exact ⟨N2.out.2.1, .inr ⟨f.b, _, _, _, HR.out, rfl, N2.out⟩⟩
end
set_option maxHeartbeats 1600000 in
theorem NewD_any (w : World) (q : Int) : Calls Try.prog 14 #[.int .i64 q] w fun e w' => e = .returned (.pointer (some ⟨w.heap.size + 2, 0, none⟩)) ∧ DkX w' [w.heap.size, w.heap.size + 1, w.heap.size + 2] (w.heap.size + 2) [] (newDk q) w.heap.size (w.heap.size + 1) none 0 0 ∧ Kept [] w w' := by
  have key : ∀ q', (newDk q).quota = q' → DkX (((w.alloc (.map #[] 0)).alloc (.map #[] 0)).alloc (.cells #[.int .i64 q', .map (some w.heap.size), .map (some (w.heap.size + 1)), .slice none 0 0, .int .i64 0, .int .i64 0] 64)) [w.heap.size, w.heap.size + 1, w.heap.size + 2] (w.heap.size + 2) [] (newDk q) w.heap.size (w.heap.size + 1) none 0 0 := by
    rintro q' rfl
    have hb : Blk (((w.alloc (.map #[] 0)).alloc (.map #[] 0)).alloc (.cells #[.int .i64 (newDk q).quota, .map (some w.heap.size), .map (some (w.heap.size + 1)), .slice none 0 0, .int .i64 0, .int .i64 0] 64)) (w.heap.size + 2) 64 #[.int .i64 (newDk q).quota, .map (some w.heap.size), .map (some (w.heap.size + 1)), .slice none 0 0, .int .i64 0, .int .i64 0] := Blk.new' _ (by simp) _ _
    have h1 : MapB ekS (evF []) ((w.alloc (.map #[] 0)).alloc (.map #[] 0)) (w.heap.size + 1) ([] : List (Bs × Nat)) := by
      have := MapB.new (ek := ekS) (ev := evF []) (w.alloc (.map #[] 0))
      simpa using this
    refine ⟨hb, ((MapB.new w).alloc _).alloc _, h1.alloc _, by omega, Own.nil _ _ _, ⟨rfl, by simp, by simp, [], rfl, by simp, by simp, by simp⟩, by simp, by simp, by simp, by simp [rowOf, Value.ownBlock], fun k hk => ?_⟩
    simp at hk ⊢
    omega
  have HK := Lib.hid key
  have K1 := Lib.hid (fun (q' : Int) => (((Kept.refl [] w).alloc (.map #[] 0)).alloc (.map #[] 0)).alloc (.cells #[.int .i64 q', .map (some w.heap.size), .map (some (w.heap.size + 1)), .slice none 0 0, .int .i64 0, .int .i64 0] 64))
  clear key
  have hmm := @run_makeMap Try.prog
  have hu := Try.underlying61
  go_enter Try.func14, Try.ntmps14
  go_wp2
  go_ret
  exact ⟨rfl, HK.out _ rfl, K1.out _⟩
end Go.Proofs.Ythdjdfdefibepaa
