
/-
  DiskQuota: its walk.
-/
import Derived.Test.YthdjdfdefibepaaDkAB
import Derived.Deep.RegionWith
namespace Go.Proofs.Ythdjdfdefibepaa
open Go.RowKit Go.ChangeShapes Go.WideShapes Go.ChangeAt Go.Deep Go.MapKept
set_option linter.unusedVariables false

set_option maxHeartbeats 6400000 in
set_option maxRecDepth 100000 in
theorem DiskQuota_walk0 (w : World) (z : Int) {A : Option Addr} {m c : Nat} {l : List CD} (h : CsAt w w A m c l) : Calls Try.prog 3 #[.int .i64 z, .slice A m c] w fun e w' => e = .returned (.bool true) ∧ Kept [] w w' := by
  have AW := Lib.hid awake3_any
  have HC := Lib.hid h
  have LL := Lib.hid h.1
  have m1 := h.2.1
  have m2 := h.2.2.1
  unfold maxLen at m2
  clear h
  obtain ⟨Q, hQ⟩ : ∃ Q, nat64 z % 200 = Q := ⟨_, rfl⟩
  have Q2 : Q ≤ 199 := by omega
  have hw1 := wrap_u64 z
  have hw2 : ((nat64 z : Nat) : Int) % 200 = (Q : Int) := by rw [← hQ]; simp
  have hnd : newDk (Q : Int) = ⟨[], [], [], [], (Q : Int), 0, 0⟩ := by unfold newDk; rw [show max (0 : Int) (min (Q : Int) 67108864) = (Q : Int) by omega]
  have QS := Lib.hid (show QI (Q : Int) 0 (newDk (Q : Int)) from ⟨new_inv _, by rw [hnd]; simp, by rw [hnd]; simp [sizeD], by rw [hnd], by rw [hnd]; simp⟩)
  have q0 : (0 : Int) ≤ (Q : Int) := by omega
  have q1 : (Q : Int) ≤ 199 := by omega
  clear hQ hnd Q2
  go_enter Try.func3, Try.ntmps3
  go_upto_region 2 with (first
    | (go_at_call 12
       have hz := short_any w HC.out
       with_reducible refine hz.mono ?_
       clear hz
       rintro e w1 ⟨r, rfl, hsh, hk1⟩
       have SH := Lib.hid hsh
       have K1 := Lib.hid hk1
       clear hsh hk1
       cases r))
  · go_wp2_with (first
      | (go_at_call 13
         with_reducible refine (AW.out _).mono ?_
         rintro e wz ⟨rfl, hkz⟩
         have KZ := Lib.hid (Kept.trans K1.out hkz (by simp))
         clear hkz))
    go_ret
    exact ⟨rfl, KZ.out⟩
  have SH2 := Lib.hid (SH.out (by trivial))
  have HL := Lib.hid (HC.out.lift (Kept.refl _ _))
  have HC1 := Lib.hid ((HC.out.kept (Kept.refl _ _) K1.out).lift K1.out)
  go_wp2_with (first
    | (go_at_call 14
       have hz := NewS w1 (Q : Int)
       with_reducible refine hz.mono ?_
       clear hz
       rintro e w2 ⟨p, rfl, hs⟩
       have S2 := Lib.hid hs
       clear hs))
  go_loopg [23] m (fun gg i wr => ∃ (j : Nat) (D : DkD), j ≤ m ∧ gg = m - j ∧ i = .int .i64 (j : Nat) ∧ QI (Q : Int) j D ∧ DkS w1 wr p D)
  case atStart => exact ⟨0, _, by omega, by omega, rfl, QS.out, S2.out⟩
  case round =>
    obtain ⟨j, D, hj, rfl, rfl, hqi, hs⟩ := hrel
    have QJ := Lib.hid hqi
    have SD := Lib.hid hs
    have KW := Lib.hid hs.kept
    clear hqi hs
    by_cases hlt : j < m
    · have M120 := Lib.hid (show m ≤ 120 by rw [← LL.out]; exact SH2.out.1)
      obtain ⟨q, hq⟩ : ∃ q, l[j]? = some q := ⟨_, List.getElem?_eq_getElem (by rw [LL.out]; exact hlt)⟩
      have SMQ := Lib.hid (SH2.out.2 q (List.mem_of_getElem? hq))
      obtain ⟨g, o, B, n, d, rfl, hg, c0, c1, c2, c3, c4, hr⟩ := (HC1.out.kept (Kept.refl _ _) KW.out).2.2.2 j q hq
      have RQ := Lib.hid hr
      have L1 := Lib.hid hr.len.1
      have hgw := Nat.lt_of_lt_of_le hg KW.out.size
      have OPS := Lib.hid (show D.ops ≤ 400000 by have := QJ.out.ops; have := M120.out; omega)
      have i0 : (0 : Int) ≤ (j : Int) := by omega
      have i1 : (j : Int) < (m : Int) := by omega
      have iw : IntKind.i64.wrap ((j : Int) + 1) = (j : Int) + 1 := IntWalk.i64_in _ (by have := M120.out; omega)
      clear hr hq
      go_upto_region 8 with (first
        | (((with_reducible show wpList _ _ _ ({ dst := none, op := Op.store 30 (.tmp 7) (.tmp 26), type := _, pos := _, after := _, guard := _ } :: _) _ _); refine wpList_put (t := 30) rfl 30 (.tmp 7) (.tmp 26) rfl _ (by rfl) (by rfl) (by (repeat (first | (apply Blk.new'; simp; done) | apply Blk.alloc | apply Blk.drew))) (by rfl) (by kernel_rfl) (by simp [Value.oneCell']) ?_; intro w5 hb5 hk5; have Hb5 := Lib.hid hb5; have Hk5 := Lib.hid hk5; clear hb5 hk5)
           have K5 := Lib.hid (((Kept.refl [] wr).alloc _).trans Hk5.out (fun i hi => .inr (by simp at hi; omega)) : Kept [] wr w5)
           have hx5 := Hb5.out.cell))
      by_cases hk0 : q.k = 0
      rotate_left
      · go_wp2
        go_roundg (m - (j + 1))
        case measure => omega
        case rel => exact ⟨j + 1, D, by omega, rfl, by go_num, ⟨QJ.out.inv, QJ.out.ids, QJ.out.size, QJ.out.quota, by have := QJ.out.ops; omega⟩, SD.out.go K5.out⟩
      have S5 := Lib.hid (SD.out.b.go K5.out)
      go_upto_region 11 with (first
        | (go_at_call 15
           have hz := NamesB S5.out QJ.out.inv OPS.out
           with_reducible refine hz.mono ?_
           clear hz
           rintro e w6 ⟨v, rfl, hs6, hd6⟩
           obtain ⟨A6, c6, rfl, _⟩ := hs6.arr
           have W6 := Lib.hid hs6
           have S6 := Lib.hid hd6
           have B6 := Lib.hid (Hb5.out.kept hs6.1 (by simp))
           clear hs6 hd6 hx5)
        | (go_at_call 16
           have hz := SizeB S6.out QJ.out.inv OPS.out
           with_reducible refine hz.mono ?_
           clear hz
           rintro e w7 ⟨rfl, hk7, hd7⟩
           have K7 := Lib.hid hk7
           have S7 := Lib.hid hd7
           have B7 := Lib.hid (B6.out.kept hk7 (by simp))
           have hx7 := B7.out.cell
           clear hk7 hd7)
        | (go_at_call 17
           have hz := AppendB S7.out QJ.out.inv OPS.out q.a q.raw (by have := SMQ.out.2.1; omega) (RQ.out.kept ((K5.out.trans W6.out.1 (by simp)).trans K7.out (by simp)) (by simp)) (by rw [← L1.out]; have := SMQ.out.1; omega)
           with_reducible refine hz.mono ?_
           clear hz
           rintro e w8 ⟨rfl, hd8, S, hk8, hS⟩
           have S8 := Lib.hid hd8
           have K8 := Lib.hid hk8
           have HS := Lib.hid hS
           have B8 := Lib.hid (B7.out.kept hk8 (fun hm => by have := hS _ hm; omega))
           clear hd8 hk8 hS hx7))
      have WS : Hid (StrA w8 A6 (namesD D).length (namesD D)) := Lib.hid (by
        obtain ⟨A', c', e, hA⟩ := W6.out.far ((K7.out.mono (fun i hi => by simp at hi)).trans K8.out (fun i hi => .inl hi)) (fun k hk => Nat.lt_of_lt_of_le (HS.out k hk) K5.out.size)
        injection e with e1 e2 e3
        subst e1
        exact hA)
      obtain ⟨hqi1, hz0, hz1⟩ := QJ.out.app q.a q.raw
      have LN := Lib.hid (show (namesD D).length ≤ 1000000 by
        unfold namesD; rw [(srtN_perm _).length_eq, List.length_map]; have := QJ.out.inv.ok.nl.1; have := OPS.out; omega)
      have s0 : (sizeD D : Int) ≤ 199 := by have := QJ.out.size; omega
      generalize hap : appD D q.a q.raw = r at *
      obtain ⟨ev, D1⟩ := r
      dsimp only at *
      have QN := Lib.hid hqi1
      have IV1 := Lib.hid hqi1.inv
      have OP1 := Lib.hid (show D1.ops ≤ 400000 by have := hqi1.ops; have := M120.out; omega)
      have j5 : ¬ (Q : Int) < (sizeD D1 : Nat) := by have := hqi1.size; omega
      have S8d := Lib.hid (S8.out.b.go ((Kept.refl [] w8).drew))
      have B8d := Lib.hid (B8.out.kept ((Kept.refl [] w8).drew) (by simp))
      have hx8 := B8d.out.cell
      have hlq := L1.out
      by_cases he : ev = 0
      · subst he
        have hsz := hz0 rfl
        rw [hlq] at hsz
        have SZ := Lib.hid hsz
        have n3 : n ≤ 3000 := by rw [← hlq]; exact SMQ.out.1
        have iw3 : IntKind.i64.wrap ((sizeD D : Int) + (n : Int)) = (sizeD D : Int) + (n : Int) := IntWalk.i64_in _ (by omega)
        have j6 : ¬ (Q : Int) < (sizeD D : Int) + (n : Int) := by omega
        clear hap hz0 hz1 hqi1 hsz j5
        refine wp_region_held_drew (S := (fun w' => w'.cell? ⟨wr.heap.size, 4, none⟩ = some (.slice B n d))) (by kernel_rfl) (hx8 4) (fun hHeld => ?_)
        refine wpAnyH_take (i := 0) (oi := ⟨some 40, _, _, _, _, _⟩) (v := ?va0) rfl (by kernel_rfl) (by kernel_rfl) (by kernel_rfl) (fun _ _ _ h => h) (Or.inl ⟨by kernel_rfl, ?hya0⟩) (by assumption) ?resta0
        case hya0 => (intro w99 hSw; (try dsimp only at hSw); (try go_simp); (try with_reducible rfl); (try omega))
        simp only [Act.put, List.setIfInBounds_toArray, List.set_cons_zero, List.set_cons_succ]
        refine wpAnyH_take (i := 2) (oi := ⟨some 42, _, _, _, _, _⟩) (v := ?va2) rfl (by kernel_rfl) (by kernel_rfl) (by kernel_rfl) (fun _ _ _ h => h) (Or.inl ⟨by kernel_rfl, ?hya2⟩) (by assumption) ?resta2
        case hya2 => (intro w99 hSw; (try dsimp only at hSw); (try go_simp); (try with_reducible rfl); (try omega))
        simp only [Act.put, List.setIfInBounds_toArray, List.set_cons_zero, List.set_cons_succ]
        refine wpAnyH_ready (rs := [1]) (by kernel_rfl) (by simp) ?_
        refine AllReadyH.cons (o := ⟨some 41, _, _, _, _, _⟩) rfl (fun K9 hK9 => ?_) AllReadyH.nil
        go_simp
        go_at_call 16
        have hz := SizeB S8d.out IV1.out OP1.out
        rw [SZ.out] at hz
        with_reducible refine hz.mono ?_
        clear hz
        rintro e w9 ⟨rfl, hk9, hd9⟩
        have S9 := Lib.hid hd9
        have B9 := Lib.hid (B8d.out.kept hk9 (by simp))
        clear hk9 hd9
        go_wp2_with fail
        refine hK9.out _ _ ?_ (fun hHeld9 => ?_)
        focus (exact B9.out.cell 4)
        clear hK9 K9 hHeld
        have hHeld := hHeld9
        clear hHeld9
        try simp only [Act.put, List.setIfInBounds_toArray, List.set_cons_zero, List.set_cons_succ]
        refine wpAnyH_take (i := 3) (oi := ⟨some 43, _, _, _, _, _⟩) (v := .bool false) rfl (by kernel_rfl) (by kernel_rfl) (by kernel_rfl) (fun _ _ _ h => h) (Or.inl ⟨by kernel_rfl, ?hya3⟩) (by assumption) ?resta3
        case hya3 => (intro w99 hSw; (try dsimp only at hSw); (try go_simp); (try with_reducible rfl); (try omega))
        simp only [Act.put, List.setIfInBounds_toArray, List.set_cons_zero, List.set_cons_succ]
        refine wpAnyH_take (i := 4) (oi := ⟨some 44, _, _, _, _, _⟩) (v := .bool false) rfl (by kernel_rfl) (by kernel_rfl) (by kernel_rfl) (fun _ _ _ h => h) (Or.inl ⟨by kernel_rfl, ?hya4⟩) (by assumption) ?resta4
        case hya4 => (intro w99 hSw; (try dsimp only at hSw); (try go_simp); (try with_reducible rfl); (try omega))
        simp only [Act.put, List.setIfInBounds_toArray, List.set_cons_zero, List.set_cons_succ]
        refine wpAnyH_take (i := 5) (oi := ⟨some 45, _, _, _, _, _⟩) (v := ?va5) rfl (by kernel_rfl) (by kernel_rfl) (by kernel_rfl) (fun _ _ _ h => h) (Or.inl ⟨by kernel_rfl, ?hya5⟩) (by assumption) ?resta5
        case hya5 => (intro w99 hSw; (try dsimp only at hSw); (try go_simp); (try with_reducible rfl); (try omega))
        simp only [Act.put, List.setIfInBounds_toArray, List.set_cons_zero, List.set_cons_succ]
        refine wpAnyH_take (i := 6) (oi := ⟨some 46, _, _, _, _, _⟩) (v := .bool true) rfl (by kernel_rfl) (by kernel_rfl) (by kernel_rfl) (fun _ _ _ h => h) (Or.inl ⟨by kernel_rfl, ?hya6⟩) (by assumption) ?resta6
        case hya6 => (intro w99 hSw; (try dsimp only at hSw); (try go_simp); (try with_reducible rfl); (try omega))
        simp only [Act.put, List.setIfInBounds_toArray, List.set_cons_zero, List.set_cons_succ]
        refine wpAnyH_take (i := 7) (oi := ⟨some 47, _, _, _, _, _⟩) (v := .bool true) rfl (by kernel_rfl) (by kernel_rfl) (by kernel_rfl) (fun _ _ _ h => h) (Or.inl ⟨by kernel_rfl, ?hya7⟩) (by assumption) ?resta7
        case hya7 => (intro w99 hSw; (try dsimp only at hSw); (try go_simp); (try with_reducible rfl); (try omega))
        simp only [Act.put, List.setIfInBounds_toArray, List.set_cons_zero, List.set_cons_succ]
        refine wpAnyH_take (i := 8) (oi := ⟨some 48, _, _, _, _, _⟩) (v := ?va8) rfl (by kernel_rfl) (by kernel_rfl) (by kernel_rfl) (fun _ _ _ h => h) (Or.inl ⟨by kernel_rfl, ?hya8⟩) (by assumption) ?resta8
        case hya8 => (intro w99 hSw; (try dsimp only at hSw); (try go_simp); (try with_reducible rfl); (try omega))
        simp only [Act.put, List.setIfInBounds_toArray, List.set_cons_zero, List.set_cons_succ]
        refine wpAnyH_take (i := 10) (oi := ⟨some 50, _, _, _, _, _⟩) (v := ?va10) rfl (by kernel_rfl) (by kernel_rfl) (by kernel_rfl) (fun _ _ _ h => h) (Or.inl ⟨by kernel_rfl, ?hya10⟩) (by assumption) ?resta10
        case hya10 => (intro w99 hSw; (try dsimp only at hSw); (try go_simp); (try with_reducible rfl); (try omega))
        simp only [Act.put, List.setIfInBounds_toArray, List.set_cons_zero, List.set_cons_succ]
        refine wpAnyH_take (i := 11) (oi := ⟨some 51, _, _, _, _, _⟩) (v := ?va11) rfl (by kernel_rfl) (by kernel_rfl) (by kernel_rfl) (fun _ _ _ h => h) (Or.inl ⟨by kernel_rfl, ?hya11⟩) (by assumption) ?resta11
        case hya11 => (intro w99 hSw; (try dsimp only at hSw); (try go_simp); (try with_reducible rfl); (try omega))
        simp only [Act.put, List.setIfInBounds_toArray, List.set_cons_zero, List.set_cons_succ]
        refine wpAnyH_take (i := 12) (oi := ⟨some 52, _, _, _, _, _⟩) (v := ?va12) rfl (by kernel_rfl) (by kernel_rfl) (by kernel_rfl) (fun _ _ _ h => h) (Or.inl ⟨by kernel_rfl, ?hya12⟩) (by assumption) ?resta12
        case hya12 => (intro w99 hSw; (try dsimp only at hSw); (try go_simp); (try with_reducible rfl); (try omega); (try exact hSw))
        simp only [Act.put, List.setIfInBounds_toArray, List.set_cons_zero, List.set_cons_succ]
        refine wpAnyH_take (i := 13) (oi := ⟨some 53, _, _, _, _, _⟩) (v := ?va13) rfl (by kernel_rfl) (by kernel_rfl) (by kernel_rfl) (fun _ _ _ h => h) (Or.inl ⟨by kernel_rfl, ?hya13⟩) (by assumption) ?resta13
        case hya13 => (intro w99 hSw; (try dsimp only at hSw); (try go_simp); (try with_reducible rfl); (try omega))
        simp only [Act.put, List.setIfInBounds_toArray, List.set_cons_zero, List.set_cons_succ]
        refine wpAnyH_take (i := 14) (oi := ⟨some 54, _, _, _, _, _⟩) (v := ?va14) rfl (by kernel_rfl) (by kernel_rfl) (by kernel_rfl) (fun _ _ _ h => h) (Or.inl ⟨by kernel_rfl, ?hya14⟩) (by assumption) ?resta14
        case hya14 => (intro w99 hSw; (try dsimp only at hSw); (try go_simp); (try with_reducible rfl); (try omega))
        simp only [Act.put, List.setIfInBounds_toArray, List.set_cons_zero, List.set_cons_succ]
        refine wpAnyH_ready (rs := [9]) (by kernel_rfl) (by simp) ?_
        refine AllReadyH.cons (o := ⟨some 49, _, _, _, _, _⟩) rfl (fun K9 hK9 => ?_) AllReadyH.nil
        go_simp
        go_at_call 16
        have hz := SizeB S9.out IV1.out OP1.out
        rw [SZ.out] at hz
        with_reducible refine hz.mono ?_
        clear hz
        rintro e w10 ⟨rfl, hk10, hd10⟩
        have S10 := Lib.hid hd10
        have B10 := Lib.hid (B9.out.kept hk10 (by simp))
        clear hk10 hd10
        go_wp2_with fail
        refine hK9.out _ _ ?_ (fun hHeld9 => ?_)
        focus (exact B10.out.cell 4)
        clear hK9 K9 hHeld
        have hHeld := hHeld9
        clear hHeld9
        try simp only [Act.put, List.setIfInBounds_toArray, List.set_cons_zero, List.set_cons_succ]
        refine wpAnyH_take (i := 15) (oi := ⟨some 55, _, _, _, _, _⟩) (v := ?va15) rfl (by kernel_rfl) (by kernel_rfl) (by kernel_rfl) (fun _ _ _ h => h) (Or.inl ⟨by kernel_rfl, ?hya15⟩) (by assumption) ?resta15
        case hya15 => (intro w99 hSw; (try dsimp only at hSw); (try go_simp); (try with_reducible rfl); (try omega))
        simp only [Act.put, List.setIfInBounds_toArray, List.set_cons_zero, List.set_cons_succ]
        refine wpAnyH_take (i := 16) (oi := ⟨some 56, _, _, _, _, _⟩) (v := ?va16) rfl (by kernel_rfl) (by kernel_rfl) (by kernel_rfl) (fun _ _ _ h => h) (Or.inl ⟨by kernel_rfl, ?hya16⟩) (by assumption) ?resta16
        case hya16 => (intro w99 hSw; (try dsimp only at hSw); (try go_simp); (try with_reducible rfl); (try omega))
        simp only [Act.put, List.setIfInBounds_toArray, List.set_cons_zero, List.set_cons_succ]
        refine wpAnyH_take (i := 17) (oi := ⟨some 57, _, _, _, _, _⟩) (v := .bool false) rfl (by kernel_rfl) (by kernel_rfl) (by kernel_rfl) (fun _ _ _ h => h) (Or.inl ⟨by kernel_rfl, ?hya17⟩) (by assumption) ?resta17
        case hya17 => (intro w99 hSw; (try dsimp only at hSw); (try go_simp); (try with_reducible rfl); (try omega))
        simp only [Act.put, List.setIfInBounds_toArray, List.set_cons_zero, List.set_cons_succ]
        refine wpAnyH_take (i := 18) (oi := ⟨some 58, _, _, _, _, _⟩) (v := .bool false) rfl (by kernel_rfl) (by kernel_rfl) (by kernel_rfl) (fun _ _ _ h => h) (Or.inl ⟨by kernel_rfl, ?hya18⟩) (by assumption) ?resta18
        case hya18 => (intro w99 hSw; (try dsimp only at hSw); (try go_simp); (try with_reducible rfl); (try omega))
        simp only [Act.put, List.setIfInBounds_toArray, List.set_cons_zero, List.set_cons_succ]
        refine wpAnyH_take (i := 19) (oi := ⟨some 59, _, _, _, _, _⟩) (v := ?va19) rfl (by kernel_rfl) (by kernel_rfl) (by kernel_rfl) (fun _ _ _ h => h) (Or.inl ⟨by kernel_rfl, ?hya19⟩) (by assumption) ?resta19
        case hya19 => (intro w99 hSw; (try dsimp only at hSw); (try go_simp); (try with_reducible rfl); (try omega))
        simp only [Act.put, List.setIfInBounds_toArray, List.set_cons_zero, List.set_cons_succ]
        refine wpAnyH_take (i := 20) (oi := ⟨some 60, _, _, _, _, _⟩) (v := .bool false) rfl (by kernel_rfl) (by kernel_rfl) (by kernel_rfl) (fun _ _ _ h => h) (Or.inl ⟨by kernel_rfl, ?hya20⟩) (by assumption) ?resta20
        case hya20 => (intro w99 hSw; (try dsimp only at hSw); (try go_simp); (try with_reducible rfl); (try omega))
        simp only [Act.put, List.setIfInBounds_toArray, List.set_cons_zero, List.set_cons_succ]
        refine wpAnyH_take (i := 21) (oi := ⟨some 61, _, _, _, _, _⟩) (v := .bool false) rfl (by kernel_rfl) (by kernel_rfl) (by kernel_rfl) (fun _ _ _ h => h) (Or.inl ⟨by kernel_rfl, ?hya21⟩) (by assumption) ?resta21
        case hya21 => (intro w99 hSw; (try dsimp only at hSw); (try go_simp); (try with_reducible rfl); (try omega))
        simp only [Act.put, List.setIfInBounds_toArray, List.set_cons_zero, List.set_cons_succ]
        refine wpAnyH_take (i := 22) (oi := ⟨some 62, _, _, _, _, _⟩) (v := undef) rfl (by kernel_rfl) (by kernel_rfl) (by kernel_rfl) (fun _ _ _ h => h) (Or.inr ⟨by kernel_rfl, rfl⟩) (by assumption) ?resta22
        simp only [Act.put, List.setIfInBounds_toArray, List.set_cons_zero, List.set_cons_succ]
        refine wpAnyH_take (i := 23) (oi := ⟨some 63, _, _, _, _, _⟩) (v := undef) rfl (by kernel_rfl) (by kernel_rfl) (by kernel_rfl) (fun _ _ _ h => h) (Or.inr ⟨by kernel_rfl, rfl⟩) (by assumption) ?resta23
        simp only [Act.put, List.setIfInBounds_toArray, List.set_cons_zero, List.set_cons_succ]
        refine wpAnyH_take (i := 24) (oi := ⟨some 64, _, _, _, _, _⟩) (v := undef) rfl (by kernel_rfl) (by kernel_rfl) (by kernel_rfl) (fun _ _ _ h => h) (Or.inr ⟨by kernel_rfl, rfl⟩) (by assumption) ?resta24
        simp only [Act.put, List.setIfInBounds_toArray, List.set_cons_zero, List.set_cons_succ]
        refine wpAnyH_take (i := 25) (oi := ⟨some 65, _, _, _, _, _⟩) (v := undef) rfl (by kernel_rfl) (by kernel_rfl) (by kernel_rfl) (fun _ _ _ h => h) (Or.inr ⟨by kernel_rfl, rfl⟩) (by assumption) ?resta25
        simp only [Act.put, List.setIfInBounds_toArray, List.set_cons_zero, List.set_cons_succ]
        refine wpAnyH_take (i := 26) (oi := ⟨some 66, _, _, _, _, _⟩) (v := undef) rfl (by kernel_rfl) (by kernel_rfl) (by kernel_rfl) (fun _ _ _ h => h) (Or.inr ⟨by kernel_rfl, rfl⟩) (by assumption) ?resta26
        simp only [Act.put, List.setIfInBounds_toArray, List.set_cons_zero, List.set_cons_succ]
        refine wpAnyH_take (i := 27) (oi := ⟨some 67, _, _, _, _, _⟩) (v := undef) rfl (by kernel_rfl) (by kernel_rfl) (by kernel_rfl) (fun _ _ _ h => h) (Or.inr ⟨by kernel_rfl, rfl⟩) (by assumption) ?resta27
        simp only [Act.put, List.setIfInBounds_toArray, List.set_cons_zero, List.set_cons_succ]
        refine wpAnyH_take (i := 28) (oi := ⟨some 68, _, _, _, _, _⟩) (v := undef) rfl (by kernel_rfl) (by kernel_rfl) (by kernel_rfl) (fun _ _ _ h => h) (Or.inr ⟨by kernel_rfl, rfl⟩) (by assumption) ?resta28
        simp only [Act.put, List.setIfInBounds_toArray, List.set_cons_zero, List.set_cons_succ]
        refine wpAnyH_take (i := 29) (oi := ⟨some 69, _, _, _, _, _⟩) (v := undef) rfl (by kernel_rfl) (by kernel_rfl) (by kernel_rfl) (fun _ _ _ h => h) (Or.inr ⟨by kernel_rfl, rfl⟩) (by assumption) ?resta29
        simp only [Act.put, List.setIfInBounds_toArray, List.set_cons_zero, List.set_cons_succ]
        refine wpAnyH_take (i := 30) (oi := ⟨some 70, _, _, _, _, _⟩) (v := undef) rfl (by kernel_rfl) (by kernel_rfl) (by kernel_rfl) (fun _ _ _ h => h) (Or.inr ⟨by kernel_rfl, rfl⟩) (by assumption) ?resta30
        simp only [Act.put, List.setIfInBounds_toArray, List.set_cons_zero, List.set_cons_succ]
        refine wpAnyH_take (i := 31) (oi := ⟨some 71, _, _, _, _, _⟩) (v := undef) rfl (by kernel_rfl) (by kernel_rfl) (by kernel_rfl) (fun _ _ _ h => h) (Or.inr ⟨by kernel_rfl, rfl⟩) (by assumption) ?resta31
        simp only [Act.put, List.setIfInBounds_toArray, List.set_cons_zero, List.set_cons_succ]
        refine wpAnyH_take (i := 32) (oi := ⟨some 72, _, _, _, _, _⟩) (v := undef) rfl (by kernel_rfl) (by kernel_rfl) (by kernel_rfl) (fun _ _ _ h => h) (Or.inr ⟨by kernel_rfl, rfl⟩) (by assumption) ?resta32
        simp only [Act.put, List.setIfInBounds_toArray, List.set_cons_zero, List.set_cons_succ]
        refine wpAnyH_take (i := 33) (oi := ⟨some 73, _, _, _, _, _⟩) (v := ?va33) rfl (by kernel_rfl) (by kernel_rfl) (by kernel_rfl) (fun _ _ _ h => h) (Or.inl ⟨by kernel_rfl, ?hya33⟩) (by assumption) ?resta33
        case hya33 => (intro w99 hSw; (try dsimp only at hSw); (try go_simp); (try with_reducible rfl); (try omega))
        simp only [Act.put, List.setIfInBounds_toArray, List.set_cons_zero, List.set_cons_succ]
        refine wpAnyH_take (i := 34) (oi := ⟨some 74, _, _, _, _, _⟩) (v := ?va34) rfl (by kernel_rfl) (by kernel_rfl) (by kernel_rfl) (fun _ _ _ h => h) (Or.inl ⟨by kernel_rfl, ?hya34⟩) (by assumption) ?resta34
        case hya34 => (intro w99 hSw; (try dsimp only at hSw); (try go_simp); (try with_reducible rfl); (try omega))
        simp only [Act.put, List.setIfInBounds_toArray, List.set_cons_zero, List.set_cons_succ]
        refine wpAnyH_done (by kernel_rfl) ?_ _
        clear hHeld
        go_wp2
        go_roundg (m - (j + 1))
        case measure => omega
        case rel => exact ⟨j + 1, D1, by omega, rfl, by go_num, QN.out, S10.out.s⟩
      · obtain ⟨hsz, hnn⟩ := hz1 he
        have SZ := Lib.hid hsz
        have NE := Lib.hid hnn
        have j6 : ¬ (Q : Int) < (sizeD D : Int) := by omega
        clear hap hz0 hz1 hqi1 hsz hnn j5
        refine wp_region_held_drew (S := (fun _ => True)) (by kernel_rfl) trivial (fun hHeld => ?_)
        refine wpAnyH_take (i := 0) (oi := ⟨some 40, _, _, _, _, _⟩) (v := ?vb0) rfl (by kernel_rfl) (by kernel_rfl) (by kernel_rfl) (fun _ _ _ h => h) (Or.inl ⟨by kernel_rfl, ?hyb0⟩) (by assumption) ?restb0
        case hyb0 => (intro w99 hSw; (try dsimp only at hSw); (try go_simp); (try with_reducible rfl); (try omega))
        simp only [Act.put, List.setIfInBounds_toArray, List.set_cons_zero, List.set_cons_succ]
        refine wpAnyH_take (i := 2) (oi := ⟨some 42, _, _, _, _, _⟩) (v := ?vb2) rfl (by kernel_rfl) (by kernel_rfl) (by kernel_rfl) (fun _ _ _ h => h) (Or.inl ⟨by kernel_rfl, ?hyb2⟩) (by assumption) ?restb2
        case hyb2 => (intro w99 hSw; (try dsimp only at hSw); (try go_simp); (try with_reducible rfl); (try omega))
        simp only [Act.put, List.setIfInBounds_toArray, List.set_cons_zero, List.set_cons_succ]
        refine wpAnyH_ready (rs := [1]) (by kernel_rfl) (by simp) ?_
        refine AllReadyH.cons (o := ⟨some 41, _, _, _, _, _⟩) rfl (fun K9 hK9 => ?_) AllReadyH.nil
        go_simp
        go_at_call 16
        have hz := SizeB S8d.out IV1.out OP1.out
        rw [SZ.out] at hz
        with_reducible refine hz.mono ?_
        clear hz
        rintro e w9 ⟨rfl, hk9, hd9⟩
        have S9 := Lib.hid hd9
        have W9 := Lib.hid ((WS.out.kept ((Kept.refl [] w8).drew)).kept hk9)
        clear hk9 hd9
        go_wp2_with fail
        refine hK9.out _ _ ?_ (fun hHeld9 => ?_)
        focus (trivial)
        clear hK9 K9 hHeld
        have hHeld := hHeld9
        clear hHeld9
        try simp only [Act.put, List.setIfInBounds_toArray, List.set_cons_zero, List.set_cons_succ]
        refine wpAnyH_take (i := 3) (oi := ⟨some 43, _, _, _, _, _⟩) (v := .bool false) rfl (by kernel_rfl) (by kernel_rfl) (by kernel_rfl) (fun _ _ _ h => h) (Or.inl ⟨by kernel_rfl, ?hyb3⟩) (by assumption) ?restb3
        case hyb3 => (intro w99 hSw; (try dsimp only at hSw); (try go_simp); (try with_reducible rfl); (try omega))
        simp only [Act.put, List.setIfInBounds_toArray, List.set_cons_zero, List.set_cons_succ]
        refine wpAnyH_take (i := 4) (oi := ⟨some 44, _, _, _, _, _⟩) (v := .bool false) rfl (by kernel_rfl) (by kernel_rfl) (by kernel_rfl) (fun _ _ _ h => h) (Or.inl ⟨by kernel_rfl, ?hyb4⟩) (by assumption) ?restb4
        case hyb4 => (intro w99 hSw; (try dsimp only at hSw); (try go_simp); (try with_reducible rfl); (try omega))
        simp only [Act.put, List.setIfInBounds_toArray, List.set_cons_zero, List.set_cons_succ]
        refine wpAnyH_take (i := 5) (oi := ⟨some 45, _, _, _, _, _⟩) (v := ?vb5) rfl (by kernel_rfl) (by kernel_rfl) (by kernel_rfl) (fun _ _ _ h => h) (Or.inl ⟨by kernel_rfl, ?hyb5⟩) (by assumption) ?restb5
        case hyb5 => (intro w99 hSw; (try dsimp only at hSw); (try go_simp); (try with_reducible rfl); (try omega))
        simp only [Act.put, List.setIfInBounds_toArray, List.set_cons_zero, List.set_cons_succ]
        refine wpAnyH_take (i := 6) (oi := ⟨some 46, _, _, _, _, _⟩) (v := .bool false) rfl (by kernel_rfl) (by kernel_rfl) (by kernel_rfl) (fun _ _ _ h => h) (Or.inl ⟨by kernel_rfl, ?hyb6⟩) (by assumption) ?restb6
        case hyb6 => (intro w99 hSw; (try dsimp only at hSw); (try go_simp); (try with_reducible rfl); (try omega))
        simp only [Act.put, List.setIfInBounds_toArray, List.set_cons_zero, List.set_cons_succ]
        refine wpAnyH_take (i := 7) (oi := ⟨some 47, _, _, _, _, _⟩) (v := .bool false) rfl (by kernel_rfl) (by kernel_rfl) (by kernel_rfl) (fun _ _ _ h => h) (Or.inl ⟨by kernel_rfl, ?hyb7⟩) (by assumption) ?restb7
        case hyb7 => (intro w99 hSw; (try dsimp only at hSw); (try go_simp); (try with_reducible rfl); (try omega))
        simp only [Act.put, List.setIfInBounds_toArray, List.set_cons_zero, List.set_cons_succ]
        refine wpAnyH_take (i := 8) (oi := ⟨some 48, _, _, _, _, _⟩) (v := undef) rfl (by kernel_rfl) (by kernel_rfl) (by kernel_rfl) (fun _ _ _ h => h) (Or.inr ⟨by kernel_rfl, rfl⟩) (by assumption) ?restb8
        simp only [Act.put, List.setIfInBounds_toArray, List.set_cons_zero, List.set_cons_succ]
        refine wpAnyH_take (i := 9) (oi := ⟨some 49, _, _, _, _, _⟩) (v := undef) rfl (by kernel_rfl) (by kernel_rfl) (by kernel_rfl) (fun _ _ _ h => h) (Or.inr ⟨by kernel_rfl, rfl⟩) (by assumption) ?restb9
        simp only [Act.put, List.setIfInBounds_toArray, List.set_cons_zero, List.set_cons_succ]
        refine wpAnyH_take (i := 10) (oi := ⟨some 50, _, _, _, _, _⟩) (v := undef) rfl (by kernel_rfl) (by kernel_rfl) (by kernel_rfl) (fun _ _ _ h => h) (Or.inr ⟨by kernel_rfl, rfl⟩) (by assumption) ?restb10
        simp only [Act.put, List.setIfInBounds_toArray, List.set_cons_zero, List.set_cons_succ]
        refine wpAnyH_take (i := 11) (oi := ⟨some 51, _, _, _, _, _⟩) (v := undef) rfl (by kernel_rfl) (by kernel_rfl) (by kernel_rfl) (fun _ _ _ h => h) (Or.inr ⟨by kernel_rfl, rfl⟩) (by assumption) ?restb11
        simp only [Act.put, List.setIfInBounds_toArray, List.set_cons_zero, List.set_cons_succ]
        refine wpAnyH_take (i := 12) (oi := ⟨some 52, _, _, _, _, _⟩) (v := undef) rfl (by kernel_rfl) (by kernel_rfl) (by kernel_rfl) (fun _ _ _ h => h) (Or.inr ⟨by kernel_rfl, rfl⟩) (by assumption) ?restb12
        simp only [Act.put, List.setIfInBounds_toArray, List.set_cons_zero, List.set_cons_succ]
        refine wpAnyH_take (i := 13) (oi := ⟨some 53, _, _, _, _, _⟩) (v := undef) rfl (by kernel_rfl) (by kernel_rfl) (by kernel_rfl) (fun _ _ _ h => h) (Or.inr ⟨by kernel_rfl, rfl⟩) (by assumption) ?restb13
        simp only [Act.put, List.setIfInBounds_toArray, List.set_cons_zero, List.set_cons_succ]
        refine wpAnyH_take (i := 14) (oi := ⟨some 54, _, _, _, _, _⟩) (v := undef) rfl (by kernel_rfl) (by kernel_rfl) (by kernel_rfl) (fun _ _ _ h => h) (Or.inr ⟨by kernel_rfl, rfl⟩) (by assumption) ?restb14
        simp only [Act.put, List.setIfInBounds_toArray, List.set_cons_zero, List.set_cons_succ]
        refine wpAnyH_take (i := 15) (oi := ⟨some 55, _, _, _, _, _⟩) (v := undef) rfl (by kernel_rfl) (by kernel_rfl) (by kernel_rfl) (fun _ _ _ h => h) (Or.inr ⟨by kernel_rfl, rfl⟩) (by assumption) ?restb15
        simp only [Act.put, List.setIfInBounds_toArray, List.set_cons_zero, List.set_cons_succ]
        refine wpAnyH_take (i := 16) (oi := ⟨some 56, _, _, _, _, _⟩) (v := .bool false) rfl (by kernel_rfl) (by kernel_rfl) (by kernel_rfl) (fun _ _ _ h => h) (Or.inl ⟨by kernel_rfl, ?hyb16⟩) (by assumption) ?restb16
        case hyb16 => (intro w99 hSw; (try dsimp only at hSw); (try go_simp); (try with_reducible rfl); (try omega))
        simp only [Act.put, List.setIfInBounds_toArray, List.set_cons_zero, List.set_cons_succ]
        refine wpAnyH_take (i := 17) (oi := ⟨some 57, _, _, _, _, _⟩) (v := .bool false) rfl (by kernel_rfl) (by kernel_rfl) (by kernel_rfl) (fun _ _ _ h => h) (Or.inl ⟨by kernel_rfl, ?hyb17⟩) (by assumption) ?restb17
        case hyb17 => (intro w99 hSw; (try dsimp only at hSw); (try go_simp); (try with_reducible rfl); (try omega))
        simp only [Act.put, List.setIfInBounds_toArray, List.set_cons_zero, List.set_cons_succ]
        refine wpAnyH_take (i := 18) (oi := ⟨some 58, _, _, _, _, _⟩) (v := .bool false) rfl (by kernel_rfl) (by kernel_rfl) (by kernel_rfl) (fun _ _ _ h => h) (Or.inl ⟨by kernel_rfl, ?hyb18⟩) (by assumption) ?restb18
        case hyb18 => (intro w99 hSw; (try dsimp only at hSw); (try go_simp); (try with_reducible rfl); (try omega))
        simp only [Act.put, List.setIfInBounds_toArray, List.set_cons_zero, List.set_cons_succ]
        refine wpAnyH_take (i := 19) (oi := ⟨some 59, _, _, _, _, _⟩) (v := ?vb19) rfl (by kernel_rfl) (by kernel_rfl) (by kernel_rfl) (fun _ _ _ h => h) (Or.inl ⟨by kernel_rfl, ?hyb19⟩) (by assumption) ?restb19
        case hyb19 => (intro w99 hSw; (try dsimp only at hSw); (try go_simp); (try with_reducible rfl); (try omega))
        simp only [Act.put, List.setIfInBounds_toArray, List.set_cons_zero, List.set_cons_succ]
        refine wpAnyH_take (i := 20) (oi := ⟨some 60, _, _, _, _, _⟩) (v := .bool true) rfl (by kernel_rfl) (by kernel_rfl) (by kernel_rfl) (fun _ _ _ h => h) (Or.inl ⟨by kernel_rfl, ?hyb20⟩) (by assumption) ?restb20
        case hyb20 => (intro w99 hSw; (try dsimp only at hSw); (try go_simp); (try with_reducible rfl); (try omega))
        simp only [Act.put, List.setIfInBounds_toArray, List.set_cons_zero, List.set_cons_succ]
        refine wpAnyH_take (i := 21) (oi := ⟨some 61, _, _, _, _, _⟩) (v := .bool true) rfl (by kernel_rfl) (by kernel_rfl) (by kernel_rfl) (fun _ _ _ h => h) (Or.inl ⟨by kernel_rfl, ?hyb21⟩) (by assumption) ?restb21
        case hyb21 => (intro w99 hSw; (try dsimp only at hSw); (try go_simp); (try with_reducible rfl); (try omega))
        simp only [Act.put, List.setIfInBounds_toArray, List.set_cons_zero, List.set_cons_succ]
        refine wpAnyH_take (i := 22) (oi := ⟨some 62, _, _, _, _, _⟩) (v := ?vb22) rfl (by kernel_rfl) (by kernel_rfl) (by kernel_rfl) (fun _ _ _ h => h) (Or.inl ⟨by kernel_rfl, ?hyb22⟩) (by assumption) ?restb22
        case hyb22 => (intro w99 hSw; (try dsimp only at hSw); (try go_simp); (try with_reducible rfl); (try omega))
        simp only [Act.put, List.setIfInBounds_toArray, List.set_cons_zero, List.set_cons_succ]
        refine wpAnyH_take (i := 24) (oi := ⟨some 64, _, _, _, _, _⟩) (v := ?vb24) rfl (by kernel_rfl) (by kernel_rfl) (by kernel_rfl) (fun _ _ _ h => h) (Or.inl ⟨by kernel_rfl, ?hyb24⟩) (by assumption) ?restb24
        case hyb24 => (intro w99 hSw; (try dsimp only at hSw); (try go_simp); (try with_reducible rfl); (try omega))
        simp only [Act.put, List.setIfInBounds_toArray, List.set_cons_zero, List.set_cons_succ]
        refine wpAnyH_ready (rs := [23]) (by kernel_rfl) (by simp) ?_
        refine AllReadyH.cons (o := ⟨some 63, _, _, _, _, _⟩) rfl (fun K9 hK9 => ?_) AllReadyH.nil
        go_simp
        go_at_call 16
        have hz := SizeB S9.out IV1.out OP1.out
        rw [SZ.out] at hz
        with_reducible refine hz.mono ?_
        clear hz
        rintro e w10 ⟨rfl, hk10, hd10⟩
        have S10 := Lib.hid hd10
        have W10 := Lib.hid (W9.out.kept hk10)
        clear hk10 hd10
        go_wp2_with fail
        refine hK9.out _ _ ?_ (fun hHeld9 => ?_)
        focus (trivial)
        clear hK9 K9 hHeld
        have hHeld := hHeld9
        clear hHeld9
        try simp only [Act.put, List.setIfInBounds_toArray, List.set_cons_zero, List.set_cons_succ]
        refine wpAnyH_take (i := 25) (oi := ⟨some 65, _, _, _, _, _⟩) (v := .bool false) rfl (by kernel_rfl) (by kernel_rfl) (by kernel_rfl) (fun _ _ _ h => h) (Or.inl ⟨by kernel_rfl, ?hyb25⟩) (by assumption) ?restb25
        case hyb25 => (intro w99 hSw; (try dsimp only at hSw); (try go_simp); (try with_reducible rfl); (try omega))
        simp only [Act.put, List.setIfInBounds_toArray, List.set_cons_zero, List.set_cons_succ]
        refine wpAnyH_take (i := 26) (oi := ⟨some 66, _, _, _, _, _⟩) (v := .bool false) rfl (by kernel_rfl) (by kernel_rfl) (by kernel_rfl) (fun _ _ _ h => h) (Or.inl ⟨by kernel_rfl, ?hyb26⟩) (by assumption) ?restb26
        case hyb26 => (intro w99 hSw; (try dsimp only at hSw); (try go_simp); (try with_reducible rfl); (try omega))
        simp only [Act.put, List.setIfInBounds_toArray, List.set_cons_zero, List.set_cons_succ]
        refine wpAnyH_take (i := 27) (oi := ⟨some 67, _, _, _, _, _⟩) (v := ?vb27) rfl (by kernel_rfl) (by kernel_rfl) (by kernel_rfl) (fun _ _ _ h => h) (Or.inl ⟨by kernel_rfl, ?hyb27⟩) (by assumption) ?restb27
        case hyb27 => (intro w99 hSw; (try dsimp only at hSw); (try go_simp); (try with_reducible rfl); (try omega))
        simp only [Act.put, List.setIfInBounds_toArray, List.set_cons_zero, List.set_cons_succ]
        refine wpAnyH_take (i := 29) (oi := ⟨some 69, _, _, _, _, _⟩) (v := ?vb29) rfl (by kernel_rfl) (by kernel_rfl) (by kernel_rfl) (fun _ _ _ h => h) (Or.inl ⟨by kernel_rfl, ?hyb29⟩) (by assumption) ?restb29
        case hyb29 => (intro w99 hSw; (try dsimp only at hSw); (try go_simp); (try with_reducible rfl); (try omega))
        simp only [Act.put, List.setIfInBounds_toArray, List.set_cons_zero, List.set_cons_succ]
        refine wpAnyH_ready (rs := [28]) (by kernel_rfl) (by simp) ?_
        refine AllReadyH.cons (o := ⟨some 68, _, _, _, _, _⟩) rfl (fun K9 hK9 => ?_) AllReadyH.nil
        go_simp
        go_at_call 15
        have hz := NamesB S10.out IV1.out OP1.out
        rw [NE.out] at hz
        with_reducible refine hz.mono ?_
        clear hz
        rintro e w11 ⟨v, rfl, hs11, hd11⟩
        obtain ⟨A11, c11, rfl, ha11⟩ := hs11.arr
        have SM := Lib.hid (SameNames_any w11 (c := c11) (d := c6) ha11 (W10.out.kept hs11.1) LN.out)
        have S11 := Lib.hid hd11
        clear hs11 hd11 ha11
        go_wp2_with fail
        refine hK9.out _ _ ?_ (fun hHeld9 => ?_)
        focus (trivial)
        clear hK9 K9 hHeld
        have hHeld := hHeld9
        clear hHeld9
        try simp only [Act.put, List.setIfInBounds_toArray, List.set_cons_zero, List.set_cons_succ]
        refine wpAnyH_ready (rs := [30]) (by kernel_rfl) (by simp) ?_
        refine AllReadyH.cons (o := ⟨some 70, _, _, _, _, _⟩) rfl (fun K9 hK9 => ?_) AllReadyH.nil
        go_simp
        go_at_call 18
        with_reducible refine SM.out.mono ?_
        rintro e w12 ⟨r, rfl, hrr, hk12⟩
        obtain rfl : r = true := hrr.2 rfl
        have S12 := Lib.hid (S11.out.go hk12)
        clear hrr hk12
        go_wp2_with fail
        refine hK9.out _ _ ?_ (fun hHeld9 => ?_)
        focus (trivial)
        clear hK9 K9 hHeld
        have hHeld := hHeld9
        clear hHeld9
        try simp only [Act.put, List.setIfInBounds_toArray, List.set_cons_zero, List.set_cons_succ]
        refine wpAnyH_take (i := 31) (oi := ⟨some 71, _, _, _, _, _⟩) (v := ?vb31) rfl (by kernel_rfl) (by kernel_rfl) (by kernel_rfl) (fun _ _ _ h => h) (Or.inl ⟨by kernel_rfl, ?hyb31⟩) (by assumption) ?restb31
        case hyb31 => (intro w99 hSw; (try dsimp only at hSw); (try go_simp); (try with_reducible rfl); (try omega))
        simp only [Act.put, List.setIfInBounds_toArray, List.set_cons_zero, List.set_cons_succ]
        refine wpAnyH_take (i := 32) (oi := ⟨some 72, _, _, _, _, _⟩) (v := ?vb32) rfl (by kernel_rfl) (by kernel_rfl) (by kernel_rfl) (fun _ _ _ h => h) (Or.inl ⟨by kernel_rfl, ?hyb32⟩) (by assumption) ?restb32
        case hyb32 => (intro w99 hSw; (try dsimp only at hSw); (try go_simp); (try with_reducible rfl); (try omega))
        simp only [Act.put, List.setIfInBounds_toArray, List.set_cons_zero, List.set_cons_succ]
        refine wpAnyH_take (i := 33) (oi := ⟨some 73, _, _, _, _, _⟩) (v := ?vb33) rfl (by kernel_rfl) (by kernel_rfl) (by kernel_rfl) (fun _ _ _ h => h) (Or.inl ⟨by kernel_rfl, ?hyb33⟩) (by assumption) ?restb33
        case hyb33 => (intro w99 hSw; (try dsimp only at hSw); (try go_simp); (try with_reducible rfl); (try omega))
        simp only [Act.put, List.setIfInBounds_toArray, List.set_cons_zero, List.set_cons_succ]
        refine wpAnyH_take (i := 34) (oi := ⟨some 74, _, _, _, _, _⟩) (v := ?vb34) rfl (by kernel_rfl) (by kernel_rfl) (by kernel_rfl) (fun _ _ _ h => h) (Or.inl ⟨by kernel_rfl, ?hyb34⟩) (by assumption) ?restb34
        case hyb34 => (intro w99 hSw; (try dsimp only at hSw); (try go_simp); (try with_reducible rfl); (try omega))
        simp only [Act.put, List.setIfInBounds_toArray, List.set_cons_zero, List.set_cons_succ]
        refine wpAnyH_done (by kernel_rfl) ?_ _
        clear hHeld
        go_wp2
        go_roundg (m - (j + 1))
        case measure => omega
        case rel => exact ⟨j + 1, D1, by omega, rfl, by go_num, QN.out, S12.out.s⟩
    · obtain rfl : j = m := by omega
      have i1 : ¬ (j : Int) < (j : Int) := by omega
      go_wp2_with (first
        | (go_at_call 13
           with_reducible refine (AW.out _).mono ?_
           rintro e wz ⟨rfl, hkz⟩
           have KZ := Lib.hid (Kept.trans (K1.out.trans KW.out (by simp)) hkz (by simp))
           clear hkz))
      go_ret
      exact ⟨rfl, KZ.out⟩
set_option maxRecDepth 100000 in
theorem DiskQuota_walk {H : Type} {enc : TypeId × Value → H} {S : Prop} (W : World) (base : Nat) (v0 : Value) (d0 : DataW H) (p0 : List MemPlace) (v1 : Value) (d1 : DataW H) (p1 : List MemPlace)
    (hv0 : Value.okWide Try.prog W .any base 3 v0) (hv1 : Value.okWide Try.prog W .any base 22 v1)
    (h0 : DataW.Trod enc Try.prog W 0 (fun _ => true) true 3 v0 d0 p0) (h1 : DataW.Trod enc Try.prog W 0 (fun _ => true) true 22 v1 d1 p1) (_ : S) :
    Calls Try.prog 3 #[v0, v1] W fun e W' => e = .returned (.bool true) ∧ Below W.heap.size W W' := by
  obtain ⟨z, rfl, _⟩ := open_i64D hv0 h0
  obtain ⟨A, m, c, l, rfl, hl⟩ := open_dcalls hv1 h1
  exact (DiskQuota_walk0 W z hl).mono fun e W' ⟨h, hk⟩ => ⟨h, hk.below (Nat.le_refl _) (by simp)⟩
end Go.Proofs.Ythdjdfdefibepaa
