
/-
  DiskPlays: its walk.
-/
import Derived.Test.YthdjdfdefibepaaRkT
namespace Go.Proofs.Ythdjdfdefibepaa
open Go.RowKit Go.ChangeShapes Go.WideShapes Go.ChangeAt Go.Deep Go.MapKept
set_option linter.unusedVariables false

/-- both disks made since w1, as the laws' loops have them -/
def DuoAt (w1 wb w : World) (p p2 j : Nat) : Prop := ∃ G D H M, Duo w G p D p2 H M ∧ InvD D ∧ RM D M ∧ D.ops ≤ j ∧ Kept [] w1 w ∧ (∀ k ∈ G, w1.heap.size ≤ k) ∧ w1.heap.size ≤ p2 ∧ ∀ k ∈ p2 :: G, k < wb.heap.size
theorem duo_lt {w : World} {p p2 : Nat} {D : DkD} {M : RkD} {G H : List Nat} (h : Duo w G p D p2 H M) : ∀ k ∈ p2 :: G, k < w.heap.size := fun k hk => by
  rcases List.mem_cons.1 hk with rfl | hk
  · exact h.m.pt
  · exact h.d.lt k hk
theorem duo_new {w1 wa wb : World} {p p2 : Nat} {q : Int} {G : List Nat} (hd : DkH wa G p (newDk q)) (hG : ∀ k ∈ G, w1.heap.size ≤ k) (h1 : Kept [] w1 wa) (hm : RkH wb p2 [] (newMk q)) (h2 : Kept [] wa wb) (hp : wa.heap.size ≤ p2) : DuoAt w1 wb wb p p2 0 := by
  have hdu : Duo wb G p (newDk q) p2 [] (newMk q) := ⟨hd.far h2 (by simp), hm, fun k hk => ⟨by simp, by have := hd.lt k hk; omega⟩⟩
  exact ⟨G, newDk q, [], newMk q, hdu, new_inv q, ⟨_, new_sim q⟩, by simp [newDk], h1.trans h2 (by simp), hG, Nat.le_trans h1.size hp, duo_lt hdu⟩
theorem DuoAt.go {w1 wb w w' : World} {p p2 j : Nat} (h : DuoAt w1 wb w p p2 j) (hk : Kept [] w w') : DuoAt w1 wb w' p p2 j := by
  obtain ⟨G, D, H, M, h1, h2, h3, h4, h5, h6, h7, h8⟩ := h
  exact ⟨G, D, H, M, h1.go hk, h2, h3, h4, h5.trans hk (by simp), h6, h7, h8⟩
theorem DuoAt.b {w1 wb w : World} {p p2 j : Nat} (h : DuoAt w1 wb w p p2 j) : DuoAt w1 w w p p2 j := by
  obtain ⟨G, D, H, M, h1, h2, h3, h4, h5, h6, h7, h8⟩ := h
  exact ⟨G, D, H, M, h1, h2, h3, h4, h5, h6, h7, duo_lt h1⟩
theorem DuoAt.kept {w1 wb w : World} {p p2 j : Nat} (h : DuoAt w1 wb w p p2 j) : Kept [] w1 w := by
  obtain ⟨G, D, H, M, h1, h2, h3, h4, h5, h6, h7, h8⟩ := h
  exact h5
/-- behind do: the disks, and what lies between is kept -/
def DoAt (w1 wb w : World) (p p2 j : Nat) (e : Ending) (w' : World) : Prop := e = .returned (.bool true) ∧ DuoAt w1 w' w' p p2 (j + 1) ∧ ∃ S, Kept S w w' ∧ ∀ k ∈ S, w1.heap.size ≤ k ∧ k < wb.heap.size
theorem doAt {w1 wb w : World} {p p2 j : Nat} (h : DuoAt w1 wb w p p2 j) (hj : j ≤ 380) (q : CD) {B : Option Addr} {n d : Nat} (hb : RdB w (old w1) (.slice B n d) q.raw) (hs : smallD q) (hz : -9223372036854775808 ≤ q.n ∧ q.n ≤ 9223372036854775807) :
    Calls Try.prog 29 #[.pointer (some ⟨p, 0, none⟩), .pointer (some ⟨p2, 0, none⟩), .agg #[.int .i64 q.k, .int .i64 q.n, .string (strOf q.a), .string (strOf q.b), .slice B n d]] w (DoAt w1 wb w p p2 j) := by
  obtain ⟨G, D, H, M, h1, h2, h3, h4, h5, h6, h7, hB⟩ := h
  have hs1 := hs.1
  rw [hb.len.1] at hs1
  refine (doL_any w h1 h2 h3 (by omega) q.k q.n q.a q.b q.raw hb (fun i hi => ?_) hs1 (by have := hs.2.1; omega) (by have := hs.2.2; omega) hz).mono ?_
  · have hl : i < w1.heap.size := List.mem_range.1 hi
    exact ⟨fun hm => by have := h6 i hm; omega, by omega, Nat.lt_of_lt_of_le hl h5.size⟩
  · rintro e w' ⟨he, D', M', ⟨G', H', g1, g2, g3, g4⟩, g5, g6, g7⟩
    refine ⟨he, ⟨G', D', H', M', g1, g5, g6, by omega, h5.trans g2 (fun i hi => .inr ?_), fun k hk => ?_, h7, duo_lt g1⟩, p2 :: G, g2, fun k hk => ⟨?_, hB k hk⟩⟩
    · rcases List.mem_cons.1 hi with rfl | hi
      · exact h7
      · exact h6 i hi
    · rcases g3 k hk with h8 | h8
      · exact h6 k h8
      · exact Nat.le_trans h5.size h8
    · rcases List.mem_cons.1 hk with rfl | hk
      · exact h7
      · exact h6 k hk
theorem likeAt {w1 wb w : World} {p p2 j : Nat} (h : DuoAt w1 wb w p p2 j) (hj : j ≤ 390) : Calls Try.prog 30 #[.pointer (some ⟨p, 0, none⟩), .pointer (some ⟨p2, 0, none⟩)] w fun e w' => e = .returned (.bool true) ∧ Kept [] w w' := by
  obtain ⟨G, D, H, M, h1, h2, h3, h4, h5, h6, h7, h8⟩ := h
  exact like_any h1 h2 h3 (by omega)
/-- a name: is it there? the same on both disks -/
def NameAt (w : World) (p p2 : Nat) (x : Bs) (r : Bool) : Prop := ∃ l : List Bs, (r = true ↔ x ∈ l) ∧ l.length ≤ 400 ∧ ∀ wa, Kept [] w wa → Calls Try.prog 32 #[.pointer (some ⟨p2, 0, none⟩)] wa fun e w' => NamPost wa l e w'
def ReadAtPost (w : World) (p p2 : Nat) (x : Bs) (e : Ending) (w' : World) : Prop := Kept [] w w' ∧ ∃ v r, e = .returned (.tuple #[v, .bool r]) ∧ NameAt w' p p2 x r
theorem readAt {w1 wb w : World} {p p2 j : Nat} (h : DuoAt w1 wb w p p2 j) (hj : j ≤ 390) (x : Bs) : Calls Try.prog 25 #[.pointer (some ⟨p, 0, none⟩), .string (strOf x)] w (ReadAtPost w p p2 x) := by
  obtain ⟨G, D, H, M, h1, h2, ⟨σ, h3⟩, h4, h5, h6, h7, hB⟩ := h
  obtain ⟨fb, bn, bs, A, m, c, xd⟩ := h1.d
  obtain ⟨vs, A1, c1, A2, c2, A3, c3, A4, c4, xm⟩ := h1.m
  have okm := h3.ok h2 (by omega)
  have hl : (namM M).length ≤ 400 := by unfold namM; rw [List.length_map]; exact okm.nl.1
  refine (Read_any xd h2.ok x).mono ?_
  rintro e w' ⟨hk, hh⟩
  refine ⟨hk, ?_⟩
  have key : ∀ r, (r = true ↔ (reaD D x).isSome = true) → NameAt w' p p2 x r := fun r hr => ⟨namM M, hr.trans (h3.mem x), hl, fun wa ha => rNames_any ((xm.go hk).go ha) (by have := okm.nl.1; omega)⟩
  rcases hh with ⟨h8, rfl⟩ | ⟨b, A2, m2, c2, h8, rfl, _⟩
  · exact ⟨_, _, rfl, key _ (by rw [h8]; simp)⟩
  · exact ⟨_, _, rfl, key _ (by rw [h8]; simp)⟩
set_option maxRecDepth 100000 in
theorem open_dcalls2 {H : Type} {enc : TypeId × Value → H} {w : World} {v : Value} {d : DataW H} {p : List MemPlace} {base : Nat} (hv : Value.okWide Try.prog w .any base 22 v) (h : DataW.Trod enc Try.prog w 0 (fun _ => true) true 22 v d p) :
    ∃ (A : Option Addr) (m c : Nat) (l : List CD), v = .slice A m c ∧ CsAt w w A m c l ∧ ∀ q ∈ l, -9223372036854775808 ≤ q.n ∧ q.n ≤ 9223372036854775807 := by
  obtain ⟨a0, len, cap, rfl⟩ := okWide_slice Try.underlying22 hv
  obtain ⟨fuel, hf⟩ := h
  obtain ⟨A, m, c, E, D, e1, h2, h3, h4, h5, h6, h7⟩ := open_slice_at (n := 5) Try.underlying22 (by kernel_rfl) (by omega) hf
  obtain ⟨l, hl, hd, hs⟩ := list_of_dec (α := CD) (m := m) (E := E) (D := D) (Dec := fun cs q => (∃ B n d, cs = [.int .i64 q.k, .int .i64 q.n, .string (strOf q.a), .string (strOf q.b), .slice B n d] ∧ RdB w (old w) (.slice B n d) q.raw) ∧ -9223372036854775808 ≤ q.n ∧ q.n ≤ 9223372036854775807) (bk := fun _ => 0) (fun i hi => by
    obtain ⟨_, fu, ps, ht⟩ := h6 i hi
    obtain ⟨k, n, a, b, B, m', c', bs, e, hr, _, wn, _⟩ := open_dcall_cells ht
    simp [Lit.wf, IntKind.min, IntKind.max, IntKind.signed, IntKind.bits] at wn
    exact ⟨⟨k, n, a.data.toList, b.data.toList, bs⟩, ⟨⟨B, m', c', by rw [strOf_data, strOf_data]; exact e, hr⟩, by dsimp only; omega⟩, Nat.zero_le _⟩)
  refine ⟨A, m, c, l, by simpa [Value.cells] using e1, ⟨hl, h2, h3, fun i q hi => ?_⟩, fun q hq => ?_⟩
  · have hlt : i < m := by have := (List.getElem?_eq_some_iff.1 hi).1; omega
    obtain ⟨g, o, e2, e3, e4⟩ := h5 (by omega)
    obtain ⟨⟨B, n, d, f1, f2⟩, _⟩ := hd i q hi
    have C := fun j hj => e4 i j hlt hj
    rw [f1] at C
    exact ⟨g, o, B, n, d, e2, e3, by simpa using C 0 (by omega), by simpa [Nat.add_assoc] using C 1 (by omega), by simpa [Nat.add_assoc] using C 2 (by omega), by simpa [Nat.add_assoc] using C 3 (by omega), by simpa [Nat.add_assoc] using C 4 (by omega), f2⟩
  · obtain ⟨i, hi⟩ := List.getElem?_of_mem hq
    exact (hd i q hi).2
set_option maxHeartbeats 6400000 in
set_option maxRecDepth 100000 in
theorem DiskPlays_walk0 (w : World) (z : Int) {A : Option Addr} {m c : Nat} {l : List CD} (h : CsAt w w A m c l) (hn : ∀ q ∈ l, -9223372036854775808 ≤ q.n ∧ q.n ≤ 9223372036854775807) : Calls Try.prog 8 #[.int .i64 z, .slice A m c] w fun e w' => e = .returned (.bool true) ∧ Kept [] w w' := by
  have AW := Lib.hid awake3_any
  have HC := Lib.hid h
  have HN := Lib.hid hn
  have LL := Lib.hid h.1
  have m1 := h.2.1
  have m2 := h.2.2.1
  unfold maxLen at m2
  clear h hn
  go_enter Try.func8, Try.ntmps8
  go_upto_region 2 with (first
    | (go_at_call 12
       have hz := short_any w HC.out
       with_reducible refine hz.mono ?_
       clear hz
       rintro e w1 ⟨r, rfl, hsh, hk1⟩
       have SH := Lib.hid hsh
       have K1 := Lib.hid hk1
       clear hsh hk1
       cases r))
  · go_wp2_with (first
      | (go_at_call 13
         with_reducible refine (AW.out _).mono ?_
         rintro e wz ⟨rfl, hkz⟩
         have KZ := Lib.hid (Kept.trans K1.out hkz (by simp))
         clear hkz))
    go_ret
    exact ⟨rfl, KZ.out⟩
  have SH2 := Lib.hid (SH.out (by trivial))
  have HC1 := Lib.hid ((HC.out.kept (Kept.refl _ _) K1.out).lift K1.out)
  go_wp2_with (first
    | (go_at_call 14
       have hz := NewD_any w1 z
       with_reducible refine hz.mono ?_
       clear hz
       rintro e w2 ⟨rfl, hd, hk2⟩
       have ND := Lib.hid hd
       have K2 := Lib.hid hk2
       clear hd hk2)
    | (go_at_call 28
       have hz := rNewDisk_any w2 z
       with_reducible refine hz.mono ?_
       clear hz
       rintro e w3 ⟨p2, rfl, hm, hk3, hp2⟩
       have DU := Lib.hid (duo_new (w1 := w1) ⟨_, _, _, _, _, _, ND.out⟩ (fun k hk => by simp at hk; omega) K2.out ⟨_, _, _, _, _, _, _, _, _, hm⟩ hk3 hp2)
       clear hm hk3 hp2))
  obtain ⟨p, hp⟩ : ∃ p, w1.heap.size + 2 = p := ⟨_, rfl⟩
  simp only [hp]
  rw [hp] at DU
  clear hp ND K2
  go_loopg [23] m (fun gg i wr => ∃ (j : Nat), j ≤ m ∧ gg = m - j ∧ i = .int .i64 (j : Nat) ∧ DuoAt w1 wr wr p p2 j)
  case atStart => exact ⟨0, by omega, by omega, rfl, DU.out⟩
  case round =>
    obtain ⟨j, hj, rfl, rfl, hdu⟩ := hrel
    have DJ := Lib.hid hdu
    have KW := Lib.hid hdu.kept
    clear hdu
    by_cases hlt : j < m
    · have M120 := Lib.hid (show m ≤ 120 by rw [← LL.out]; exact SH2.out.1)
      obtain ⟨q, hq⟩ : ∃ q, l[j]? = some q := ⟨_, List.getElem?_eq_getElem (by rw [LL.out]; exact hlt)⟩
      have SMQ := Lib.hid (SH2.out.2 q (List.mem_of_getElem? hq))
      have HNQ := Lib.hid (HN.out q (List.mem_of_getElem? hq))
      obtain ⟨g, o, B, n, d, rfl, hg, c0, c1, c2, c3, c4, hr⟩ := (HC1.out.kept (Kept.refl _ _) KW.out).2.2.2 j q hq
      have RQ := Lib.hid hr
      have hgw := Nat.lt_of_lt_of_le hg KW.out.size
      have i0 : (0 : Int) ≤ (j : Int) := by omega
      have i1 : (j : Int) < (m : Int) := by omega
      have iw : IntKind.i64.wrap ((j : Int) + 1) = (j : Int) + 1 := IntWalk.i64_in _ (by have := M120.out; omega)
      clear hr hq
      go_upto_region 12 with (first
        | (((with_reducible show wpList _ _ _ ({ dst := none, op := Op.store 30 (.tmp 8) (.tmp 26), type := _, pos := _, after := _, guard := _ } :: _) _ _); refine wpList_put (t := 30) rfl 30 (.tmp 8) (.tmp 26) rfl _ (by rfl) (by rfl) (by (repeat (first | (apply Blk.new'; simp; done) | apply Blk.alloc | apply Blk.drew))) (by rfl) (by kernel_rfl) (by simp [Value.oneCell']) ?_; intro w5 hb5 hk5; have Hb5 := Lib.hid hb5; have Hk5 := Lib.hid hk5; clear hb5 hk5)
           have K5 := Lib.hid (((Kept.refl [] wr).alloc _).trans Hk5.out (fun i hi => .inr (by simp at hi; omega)) : Kept [] wr w5)
           have hx5 := Hb5.out.cell
           have D5 := Lib.hid (DJ.out.go K5.out))
        | (go_at_call 29
           have hz := doAt D5.out (by have := M120.out; omega) q (RQ.out.kept K5.out (by simp)) SMQ.out HNQ.out
           with_reducible refine hz.mono ?_
           clear hz
           rintro e w6 ⟨rfl, hd6, S, hk6, hS⟩
           have D6 := Lib.hid hd6
           have B6 := Lib.hid (Hb5.out.kept hk6 (fun hm => by have h1 := (hS _ hm).2; omega))
           have hx6 := B6.out.cell
           clear hd6 hk6 hS hx5)
        | (go_at_call 30
           have hz := likeAt D6.out (by have := M120.out; omega)
           with_reducible refine hz.mono ?_
           clear hz
           rintro e w7 ⟨rfl, hk7⟩
           have D7 := Lib.hid (D6.out.go hk7)
           have B7 := Lib.hid (B6.out.kept hk7 (by simp))
           have hx7 := B7.out.cell
           clear hk7 hx6)
        | (go_at_call 25
           have hz := readAt D7.out (by have := M120.out; omega) q.b
           with_reducible refine hz.mono ?_
           clear hz
           rintro e w8 ⟨hk8, v8, r8, rfl, hna⟩
           have D8 := Lib.hid (D7.out.go hk8)
           have B8 := Lib.hid (B7.out.kept hk8 (by simp))
           have hx8 := B8.out.cell
           have NA := Lib.hid hna
           clear hk8 hna hx7))
      obtain ⟨nl, hnl, hnl2, hcall⟩ := NA.out
      have NL := Lib.hid hnl
      have NL2 := Lib.hid hnl2
      have NC := Lib.hid hcall
      clear hnl hnl2 hcall
      refine wp_region_held_drew (S := (fun w' => ∀ i, w'.cell? ⟨wr.heap.size, i, none⟩ = (#[.int .i64 q.k, .int .i64 q.n, .string (strOf q.a), .string (strOf q.b), .slice B n d] : Array Value)[i]?)) (by kernel_rfl) (fun i => hx8 i) (fun hHeld => ?_)
      refine wpAnyH_take (i := 0) (oi := ⟨some 45, _, _, _, _, _⟩) (v := ?vh1_1) rfl (by kernel_rfl) (by kernel_rfl) (by kernel_rfl) (fun _ _ _ h => h) (Or.inl ⟨by kernel_rfl, ?hyh1_1⟩) (by assumption) ?resth1_1
      case hyh1_1 => (intro w99 hSw; (try dsimp only at hSw); (try go_simp); (try with_reducible rfl); (try omega))
      simp only [Act.put, List.setIfInBounds_toArray, List.set_cons_zero, List.set_cons_succ]
      refine wpAnyH_take (i := 1) (oi := ⟨some 46, _, _, _, _, _⟩) (v := ?vh1_2) rfl (by kernel_rfl) (by kernel_rfl) (by kernel_rfl) (fun _ _ _ h => h) (Or.inl ⟨by kernel_rfl, ?hyh1_2⟩) (by assumption) ?resth1_2
      case hyh1_2 => (intro w99 hSw; (try dsimp only at hSw); (try go_simp); (try with_reducible rfl); (try omega))
      simp only [Act.put, List.setIfInBounds_toArray, List.set_cons_zero, List.set_cons_succ]
      refine wpAnyH_take (i := 3) (oi := ⟨some 48, _, _, _, _, _⟩) (v := ?vh1_3) rfl (by kernel_rfl) (by kernel_rfl) (by kernel_rfl) (fun _ _ _ h => h) (Or.inl ⟨by kernel_rfl, ?hyh1_3⟩) (by assumption) ?resth1_3
      case hyh1_3 => (intro w99 hSw; (try dsimp only at hSw); (try go_simp); (try with_reducible rfl); (try omega))
      simp only [Act.put, List.setIfInBounds_toArray, List.set_cons_zero, List.set_cons_succ]
      refine wpAnyH_take (i := 4) (oi := ⟨some 49, _, _, _, _, _⟩) (v := ?vh1_4) rfl (by kernel_rfl) (by kernel_rfl) (by kernel_rfl) (fun _ _ _ h => h) (Or.inl ⟨by kernel_rfl, ?hyh1_4⟩) (by assumption) ?resth1_4
      case hyh1_4 => (intro w99 hSw; (try dsimp only at hSw); (try go_simp); (try with_reducible rfl); (try omega))
      simp only [Act.put, List.setIfInBounds_toArray, List.set_cons_zero, List.set_cons_succ]
      refine wpAnyH_ready (rs := [2]) (by kernel_rfl) (by simp) ?_
      refine AllReadyH.cons (o := ⟨some 47, _, _, _, _, _⟩) rfl (fun KQ hKQ => ?w2h1_5) AllReadyH.nil
      case w2h1_5 =>
        go_simp
        go_at_call 32
        have hz := NC.out w8.drew ((Kept.refl [] w8).drew)
        with_reducible refine hz.mono ?_
        clear hz
        rintro e w9 ⟨A9, m9, c9, rfl, hs⟩
        have K9 := Lib.hid (Kept.trans ((Kept.refl [] w8).drew) (LV.kept hs) (by simp))
        have SA9 := Lib.hid (SrV.arr hs)
        clear hs
        go_wp2_with fail
        refine hKQ.out _ _ (fun i => (B8.out.kept K9.out (by simp)).cell i) (fun hHeld9 => ?_)
        clear hKQ KQ hHeld
        have hHeld := hHeld9
        clear hHeld9
        try simp only [Act.put, List.setIfInBounds_toArray, List.set_cons_zero, List.set_cons_succ]
        refine wpAnyH_ready (rs := [5]) (by kernel_rfl) (by simp) ?_
        refine AllReadyH.cons (o := ⟨some 50, _, _, _, _, _⟩) rfl (fun KQ hKQ => ?w5h1_6) AllReadyH.nil
        case w5h1_6 =>
          go_simp
          go_at_call 31
          have hz := index_any w9 (c := c9) SA9.out (by have h1 := SA9.out.1; have h2 := NL2.out; omega) q.b
          with_reducible refine hz.mono ?_
          clear hz
          rintro e w10 ⟨y, rfl, hy, rfl⟩
          have hd : decide ((0 : Int) ≤ y) = r8 := by rw [Bool.eq_iff_iff, decide_eq_true_eq]; exact hy.trans NL.out.symm
          clear hy
          go_wp2_with fail
          refine hKQ.out _ _ (fun i => (B8.out.kept K9.out (by simp)).cell i) (fun hHeld9 => ?_)
          clear hKQ KQ hHeld
          have hHeld := hHeld9
          clear hHeld9
          try simp only [Act.put, List.setIfInBounds_toArray, List.set_cons_zero, List.set_cons_succ]
          refine wpAnyH_take (i := 6) (oi := ⟨some 51, _, _, _, _, _⟩) (v := .bool r8) rfl (by kernel_rfl) (by kernel_rfl) (by kernel_rfl) (fun _ _ _ h => h) (Or.inl ⟨by kernel_rfl, ?hyh1_7⟩) (by assumption) ?resth1_7
          case hyh1_7 => (intro w99 hSw; (try dsimp only at hSw); (try go_simp); (try with_reducible rfl); (try omega); (try rw [hd]))
          simp only [Act.put, List.setIfInBounds_toArray, List.set_cons_zero, List.set_cons_succ]
          refine wpAnyH_take (i := 7) (oi := ⟨some 52, _, _, _, _, _⟩) (v := .bool false) rfl (by kernel_rfl) (by kernel_rfl) (by kernel_rfl) (fun _ _ _ h => h) (Or.inl ⟨by kernel_rfl, ?hyh1_8⟩) (by assumption) ?resth1_8
          case hyh1_8 => (intro w99 hSw; (try dsimp only at hSw); (try go_simp); (try with_reducible rfl); (try omega); (try (simp; done)))
          simp only [Act.put, List.setIfInBounds_toArray, List.set_cons_zero, List.set_cons_succ]
          refine wpAnyH_done (by kernel_rfl) ?_ _
          clear hHeld
          have DE := Lib.hid (D8.out.go K9.out)
          go_wp2
          go_roundg (m - (j + 1))
          case measure => omega
          case rel => exact ⟨j + 1, by omega, rfl, by go_num, DE.out.b⟩
    · obtain rfl : j = m := by omega
      have i1 : ¬ (j : Int) < (j : Int) := by omega
      go_wp2_with (first
        | (go_at_call 13
           with_reducible refine (AW.out _).mono ?_
           rintro e wz ⟨rfl, hkz⟩
           have KZ := Lib.hid (Kept.trans (K1.out.trans KW.out (by simp)) hkz (by simp))
           clear hkz))
      go_ret
      exact ⟨rfl, KZ.out⟩
set_option maxRecDepth 100000 in
theorem DiskPlays_walk {H : Type} {enc : TypeId × Value → H} {S : Prop} (W : World) (base : Nat) (v0 : Value) (d0 : DataW H) (p0 : List MemPlace) (v1 : Value) (d1 : DataW H) (p1 : List MemPlace)
    (hv0 : Value.okWide Try.prog W .any base 3 v0) (hv1 : Value.okWide Try.prog W .any base 22 v1)
    (h0 : DataW.Trod enc Try.prog W 0 (fun _ => true) true 3 v0 d0 p0) (h1 : DataW.Trod enc Try.prog W 0 (fun _ => true) true 22 v1 d1 p1) (_ : S) :
    Calls Try.prog 8 #[v0, v1] W fun e W' => e = .returned (.bool true) ∧ Below W.heap.size W W' := by
  obtain ⟨z, rfl, _⟩ := open_i64D hv0 h0
  obtain ⟨A, m, c, l, rfl, hl, hn⟩ := open_dcalls2 hv1 h1
  exact (DiskPlays_walk0 W z hl hn).mono fun e W' ⟨h, hk⟩ => ⟨h, hk.below (Nat.le_refl _) (by simp)⟩
end Go.Proofs.Ythdjdfdefibepaa
