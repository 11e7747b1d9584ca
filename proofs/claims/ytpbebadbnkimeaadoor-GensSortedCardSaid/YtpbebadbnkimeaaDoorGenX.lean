
/-
  The walk of GensSorted.
-/
import Derived.Test.YtpbebadbnkimeaaDoorGenW
import Derived.Test.YtpbebadbnkimeaaDoorGenY
import Derived.Deep.RegionLawGrows
namespace Go.Proofs.YtpbebadbnkimeaaDoor
open Go.RowKit Go.ChangeShapes Go.WideShapes Go.ChangeAt Go.Deep
set_option linter.unusedVariables false
set_option maxRecDepth 100000

theorem flatB_cell {w : World} {G : List Nat} {g o m c : Nat} {l : List BackD} (h : BkArr w G (.slice (some ⟨g, o, none⟩) m c) l) {i : Nat} {u : Value} (hu : ((l.map encB).flatten)[i]? = some u) : w.cell? ⟨g, o + i, none⟩ = some u := by
  have hlt : i < l.length * 3 := by
    have := (List.getElem?_eq_some_iff.1 hu).1
    rwa [RowAt.flat_size encB_len] at this
  have hj : i / 3 < l.length := by omega
  obtain ⟨g', o', heq, _, _, c0, c1, c2⟩ := BkArr.at h hj
  injection heq with heq
  injection heq with hh1 hh2 _
  subst hh1 hh2
  have hf := RowAt.flat_at (enc := encB) encB_len (List.getElem?_eq_getElem hj) (c := i % 3) (v := (encB l[i / 3])[i % 3]'(by rw [encB_len]; omega)) (List.getElem?_eq_getElem _)
  rw [show i / 3 * 3 + i % 3 = i by omega, hu] at hf
  injection hf with hf
  have h3 : i % 3 = 0 ∨ i % 3 = 1 ∨ i % 3 = 2 := by omega
  have e : i = i / 3 * 3 + i % 3 := by omega
  rcases h3 with h3 | h3 | h3
  · rw [hf, show o + i = o + i / 3 * 3 by omega, c0]
    simp [h3, encB]
  · rw [hf, show o + i = o + i / 3 * 3 + 1 by omega, c1]
    simp [h3, encB]
  · rw [hf, show o + i = o + i / 3 * 3 + 2 by omega, c2]
    simp [h3, encB]
theorem BkArr.rdTake {w : World} {G : List Nat} {g o m c : Nat} {l : List BackD} (h : BkArr w G (.slice (some ⟨g, o, none⟩) m c) l) (t : Nat) : Rd w (some ⟨g, o, none⟩) ((l.take t).map encB).flatten := by
  refine fun _ => ⟨g, o, rfl, fun j u hu => flatB_cell h ?_⟩
  rw [← List.take_append_drop t l, List.map_append, List.flatten_append]
  exact (List.getElem?_append_left (List.getElem?_eq_some_iff.1 hu).1).trans hu
theorem BkArr.rdDrop {w : World} {G : List Nat} {g o m c : Nat} {l : List BackD} (h : BkArr w G (.slice (some ⟨g, o, none⟩) m c) l) (t : Nat) (ht : t ≤ l.length) : Rd w (some ⟨g, o + t * 3, none⟩) ((l.drop t).map encB).flatten := by
  refine fun _ => ⟨g, o + t * 3, rfl, fun j u hu => ?_⟩
  rw [Nat.add_assoc]
  refine flatB_cell h ?_
  have hl : (((l.take t).map encB).flatten).length = t * 3 := by rw [RowAt.flat_size encB_len, List.length_take, Nat.min_eq_left ht]
  have e : (l.map encB).flatten = ((l.take t).map encB).flatten ++ ((l.drop t).map encB).flatten := by
    rw [← List.flatten_append, ← List.map_append, List.take_append_drop]
  rw [e, List.getElem?_append_right (by rw [hl]; omega), hl, show t * 3 + j - t * 3 = j by omega]
  exact hu
theorem step_bks {ops : Array Oper} {o : Oper} {a : Act} {K : Act → World → Prop} {Q : Exit → Act → World → Prop} {E0 : Prop} {w0 : World} (hgd : o.guard = none) (s x : Operand)
    (ho : o.op = .call { callee := .builtin .append, args := #[s, x], argTypes := #[22, 22] }) {W : World} {sl : Value} {l l' : List BackD} {A' : Option Addr} {n c' : Nat}
    (hs : a.eval s = sl) (hN : BkV W w0 sl l) (hx : a.eval x = .slice A' n c') (hr : Rd w0 A' (l'.map encB).flatten) (hn : l'.length = n) (hl : l.length + n ≤ 100000)
    (h : ∀ A m c w', BkV W w' (.slice A m c) (l ++ l') → Kept (rowOf sl) w0 w' → (∀ k ∈ rowOf sl, W.heap.size ≤ k) → K (a.put o.dst (.slice A m c)) w') : if Region.wanted o (yielded ops a.tmps) = true then Oper.wp Tryd.prog o a w0 K Q else E0 := by
  obtain ⟨css, G, h1⟩ := hN
  have hD : Decs BkDec w0 [] (l'.map encB) l' := ⟨by simp, fun i cs b h1 h2 => by
    rw [List.getElem?_map, h2] at h1
    injection h1 with h1
    exact h1.symm⟩
  refine step_app _ hgd s x 22 ho elem_back hs h1.own hx hr (by rw [RowAt.flat_size encB_len, hn]) (hD.ones BkOk) (by unfold maxLen; omega) (by omega) (fun v' w' ho' hk hr' => ?_)
  have hx := LVx.app BkOk h1 (Kept.refl [] w0) hD (by simp) ho' (by simp [hn]) (by simp) hk hr'
  obtain ⟨A, m, c, rfl⟩ := Own.form' ho'
  exact h A m c w' ⟨_, _, hx⟩ hk h1.new
/-- of the row's first k no two are of one number -/
def distK (l : List BackD) (k : Nat) : Prop := ∀ i j a b, i < k → j < i → l[i]? = some a → l[j]? = some b → a.id ≠ b.id
theorem dist_of {l : List BackD} {k : Nat} (h : distK l k) (hk : l.length ≤ k) : distB l := by
  unfold distB
  rw [List.pairwise_iff_getElem]
  intro i j hi hj hij e
  exact h j i _ _ (by omega) hij (List.getElem?_eq_getElem hj) (List.getElem?_eq_getElem hi) e.symm
set_option maxHeartbeats 6400000 in
theorem GensSorted_at (w : World) {G : List Nat} {A : Option Addr} {m c : Nat} (l : List BackD) (turn : Int) (h : BkArr w G (.slice A m c) l) (hG : ∀ k ∈ G, k < w.heap.size) (mx : Int) (hm : w.cell? ⟨0, 0, none⟩ = some (.int .i64 mx)) (ht : PowTab w) :
    Calls Tryd.prog 4 #[.slice A m c, .int .i64 turn] w fun e w' => e = .returned (.bool true) ∧ Kept [] w w' := by
  obtain ⟨a1, a2, a3, a4⟩ := h.len
  have H := Lib.hid h
  have A1 := Lib.hid a1
  have HG := Lib.hid hG
  have HA := Lib.hid (fun w' (hk : Kept [] w w') => awake13_any w' mx (m_kept hm hk) (tab_kept ht (g := 3) (by kernel_rfl) hk (by simp)))
  clear h a1 a4 hm ht hG
  unfold maxLen at a3
  by_cases h0 : m = 0 ∨ 16 < m
  · rcases h0 with h0 | h0
    all_goals
      first
        | (have i1 : ((m : Int) == 0) = true := by simp [h0]
           have i2 : (m : Int) = 0 := by omega)
        | (have i1 : ((m : Int) == 0) = false := beq_false_of_ne (by omega)
           have i2 : ¬ (m : Int) = 0 := by omega
           have i4 : ¬ m = 0 := by omega
           have i3 : (16 : Int) < (m : Int) := by omega)
      go_enter Tryd.func4, Tryd.ntmps4
      go_wp2_with (go_at_call 6; refine (HA.out _ (Kept.refl _ _)).mono ?_; rintro e w1 ⟨rfl, k1⟩; have K := Lib.hid k1; clear k1)
      go_ret
      exact ⟨rfl, K.out⟩
  · have i1 : ((m : Int) == 0) = false := beq_false_of_ne (by omega)
    have i2 : ¬ (m : Int) = 0 := by omega
    have i4 : ¬ m = 0 := by omega
    have i3 : ¬ (16 : Int) < (m : Int) := by omega
    have hm16 : m ≤ 16 := by omega
    have hm1 : 1 ≤ m := by omega
    clear h0
    obtain ⟨g, o, rfl, hgl, hgG, _⟩ := BkArr.at H.out (k := 0) (by rw [A1.out]; omega)
    go_enter Tryd.func4, Tryd.ntmps4
    go_wp2
    go_loopg [22] m (fun gg i wr => ∃ k : Nat, k ≤ m ∧ gg = m - k ∧ i = .int .i64 k ∧ distK l k ∧ Kept [] w wr)
    case atStart => exact ⟨0, by omega, by omega, rfl, fun i j a b h1 => by omega, Kept.refl _ _⟩
    case round =>
      obtain ⟨k, hk, rfl, rfl, hs, hkw⟩ := hrel
      have Hs := Lib.hid hs
      have Hkw := Lib.hid hkw
      clear hs hkw
      by_cases hlt : k < m
      · have hkl : k < l.length := by rw [A1.out]; exact hlt
        obtain ⟨g', o', heq, _, _, c0, c1, c2⟩ := (BkArr.kept H.out Hkw.out (by simp)).at (k := k) hkl
        injection heq with heq
        injection heq with hh1 hh2 _
        subst hh1 hh2
        have HB := Lib.hid (List.getElem?_eq_getElem hkl)
        generalize l[k]'hkl = b at *
        clear hkl
        have j0 : (0 : Int) ≤ (k : Int) := by omega
        have j1 : (k : Int) < (m : Int) := by omega
        have j2 : (k : Int) ≤ (m : Int) := by omega
        have j3 : (k : Int) ≤ (c : Int) := by omega
        have Bb := Lib.hid (Blk.new wr 27 #[.int .i64 b.id, .int .u32 (b.addr.toNat : Nat), .int .i64 b.weight])
        have Kb := Lib.hid (Hkw.out.alloc (.cells #[.int .i64 b.id, .int .u32 (b.addr.toNat : Nat), .int .i64 b.weight] 27))
        obtain ⟨bb, hbb⟩ : ∃ bb, wr.heap.size = bb := ⟨_, rfl⟩
        rw [hbb] at Bb
        go_wp2
        (try rw [hbb])
        generalize wr.alloc (.cells #[.int .i64 b.id, .int .u32 (b.addr.toNat : Nat), .int .i64 b.weight] 27) = wb at Bb Kb ⊢
        clear hbb c0 c1 c2
        go_loopg [31] k (fun gg i wr => ∃ q : Nat, q ≤ k ∧ gg = k - q ∧ i = .int .i64 q ∧ (∀ j x, j < q → l[j]? = some x → b.id ≠ x.id) ∧ Blk wr bb 27 #[.int .i64 b.id, .int .u32 (b.addr.toNat : Nat), .int .i64 b.weight] ∧ Kept [] w wr)
        case atStart => exact ⟨0, by omega, by omega, rfl, fun j x h1 => by omega, Bb.out, Kb.out⟩
        case round =>
          clear Bb Kb
          obtain ⟨q, hq, rfl, rfl, hs2, hbq, hkq⟩ := hrel
          have Hs2 := Lib.hid hs2
          have Bb := Lib.hid hbq
          have Kb := Lib.hid hkq
          clear hs2 hbq hkq
          by_cases hql : q < k
          · have hqk : q < l.length := by rw [A1.out]; omega
            obtain ⟨g', o', heq, _, _, c0, c1, c2⟩ := (BkArr.kept H.out Kb.out (by simp)).at (k := q) hqk
            injection heq with heq
            injection heq with hh1 hh2 _
            subst hh1 hh2
            have HC := Lib.hid (List.getElem?_eq_getElem hqk)
            generalize l[q]'hqk = x at *
            clear hqk
            have j4 : (0 : Int) ≤ (q : Int) := by omega
            have j5 : (q : Int) < (k : Int) := by omega
            have hcb := Bb.out.cell
            have hlb := Bb.out.lt
            have B2 := Lib.hid (Bb.out.alloc (.cells #[.int .i64 x.id, .int .u32 (x.addr.toNat : Nat), .int .i64 x.weight] 27))
            have K2 := Lib.hid (Kb.out.alloc (.cells #[.int .i64 x.id, .int .u32 (x.addr.toNat : Nat), .int .i64 x.weight] 27))
            by_cases he : b.id = x.id
            · have d1 : (b.id == x.id) = true := by simp [he]
              have d2 : decide (b.id = x.id) = true := decide_eq_true he
              clear he
              go_wp2_with (go_at_call 6; refine (HA.out _ K2.out).mono ?_; rintro e w1 ⟨rfl, k1⟩; have K := Lib.hid (K2.out.trans k1 (by simp)); clear k1)
              go_ret
              exact ⟨rfl, K.out⟩
            · have d1 : (b.id == x.id) = false := beq_false_of_ne he
              have d2 : decide (b.id = x.id) = false := decide_eq_false he
              have HE := Lib.hid he
              clear he
              go_wp2
              go_roundg (k - (q + 1))
              case measure => omega
              case rel =>
                refine ⟨q + 1, by omega, rfl, by go_num, fun j y hj hy => ?_, B2.out, K2.out⟩
                rcases Nat.lt_or_ge j q with hj' | hj'
                · exact Hs2.out j y hj' hy
                · obtain rfl : j = q := by omega
                  obtain rfl : x = y := Option.some.inj (HC.out.symm.trans hy)
                  exact HE.out
          · have hd := Lib.hid (show distK l (k + 1) from fun i j a y hi hj ha hy => by
              rcases Nat.lt_or_ge i k with hi' | hi'
              · exact Hs.out i j a y hi' hj ha hy
              · obtain rfl : i = k := by omega
                obtain rfl : b = a := Option.some.inj (HB.out.symm.trans ha)
                exact Hs2.out j y (by omega) hy)
            go_wp2
            go_roundg (m - (k + 1))
            case measure => omega
            case rel => exact ⟨k + 1, by omega, rfl, by go_num, hd.out, Kb.out⟩
      · have hd := dist_of Hs.out (by rw [A1.out]; omega)
        have HD := Lib.hid hd
        obtain ⟨t, htt⟩ : ∃ t, nat64 turn % m = t := ⟨_, rfl⟩
        have htm : t < m := by rw [← htt]; exact Nat.mod_lt _ (by omega)
        have hw1 := wrap_u64 turn
        have hw2 := wrap_u64 (m : Int)
        rw [nat64_small m (by omega)] at hw2
        have hw3 : ((nat64 turn : Nat) : Int) % (m : Int) = (t : Int) := by rw [← htt]; simp
        have hw4 : ((nat64 turn : Nat) : Int).tmod (m : Int) = (t : Int) := by rw [← htt, Int.tmod_eq_emod_of_nonneg (by omega)]; simp
        have hw5 : IntKind.i64.wrap (t : Int) = (t : Int) := IntWalk.i64_in _ (by omega)
        have j0 : (0 : Int) ≤ (t : Int) := by omega
        have j1 : (t : Int) ≤ (m : Int) := by omega
        have j2 : (m : Int) ≤ (c : Int) := by omega
        have j3 : (t : Int) ≤ (c : Int) := by omega
        have j5 : ¬ c = t := by omega
        clear hd htt
        go_wp2
        have RDw := Lib.hid (fun w' (hk : Kept [] w w') => BkArr.rdDrop (BkArr.kept H.out hk (by simp)) t (by rw [A1.out]; omega))
        have RTw := Lib.hid (fun w' (hk : Kept [] w w') => BkArr.rdTake (BkArr.kept H.out hk (by simp)) t)
        have LD : (l.drop t).length = m - t := by rw [List.length_drop, A1.out]
        have LT : (l.take t).length = t := by rw [List.length_take, A1.out]; omega
        have HLD := Lib.hid LD
        have HLT := Lib.hid LT
        have hp : l.Perm (l.drop t ++ l.take t) := by
          have h1 : (l.take t ++ l.drop t).Perm (l.drop t ++ l.take t) := List.perm_append_comm
          rwa [List.take_append_drop] at h1
        have E1 := Lib.hid (sort_of_perm HD.out (by rw [A1.out]; omega) hp)
        have E2 := Lib.hid ((sort_perm HD.out (by rw [A1.out]; omega)).length_eq)
        have E3 := Lib.hid (weight_perm (sort_perm HD.out (by rw [A1.out]; omega)))
        clear LD LT hp hw1 hw2 hw3 hw4 hw5
        go_region_law ((first
          | (refine step_bks (W := wr) (w0 := wr.drew) (l := []) (l' := l.drop t) rfl (.const (.slice none 0 0)) (.tmp 52) rfl (by first | rfl | simp [Act.eval]) (LV.nil ((Kept.refl [] wr).drew)) (by first | (simp [Act.eval]; rfl) | (simp [Act.eval]; done) | rfl) (RDw.out _ (Hkw.out.drew)) HLD.out (by simp; omega) ?_
             intro A3 m3 c3 w3 h1 k1 r1
             have V3 := Lib.hid (show BkV wr w3 (.slice A3 m3 c3) (l.drop t) from h1)
             have K3 := Lib.hid (Hkw.out.trans (LV.kept h1) (by simp))
             clear h1 k1 r1)
          | (refine step_bks (W := wr) (w0 := w3) (l := l.drop t) (l' := l.take t) rfl (.tmp 53) (.tmp 56) rfl (by first | (simp [Act.eval]; done) | (simp [Act.eval]; rfl) | rfl) V3.out (by first | (simp [Act.eval]; rfl) | (simp [Act.eval]; done) | rfl) (RTw.out _ K3.out) HLT.out (by rw [HLD.out]; omega) ?_
             intro A4 m4 c4 w4 h1 k1 r1
             have V4 := Lib.hid h1
             have K4 := Lib.hid (Hkw.out.trans (LV.kept h1) (by simp))
             clear h1 k1 r1)))
        have HS1 := Lib.hid (fun w' (hk : Kept [] w w') => gSort_any w' l (BkArr.kept H.out hk (by simp)) (fun k hk' => Nat.lt_of_lt_of_le (HG.out k hk') hk.size) (by omega))
        have HW1 := Lib.hid (fun w' (hk : Kept [] w w') => gWeight_any w' l (BkArr.kept H.out hk (by simp)) (by omega))
        have HML : Hid ((l.drop t ++ l.take t).length = m) := Lib.hid (by rw [List.length_append, HLD.out, HLT.out]; omega)
        obtain ⟨lm, hlm⟩ : ∃ x, l.drop t ++ l.take t = x := ⟨_, rfl⟩
        rw [hlm] at HML E1 V4
        obtain ⟨ls, hls⟩ : ∃ x, sortB l = x := ⟨_, rfl⟩
        rw [hls] at E1 E2 E3 HS1
        have E4 := Lib.hid (show sameBs ls ls = true from sameBs_iff.2 rfl)
        have hle : (ls.length == l.length) = true := by rw [E2.out]; simp
        have HE := Lib.hid hle
        clear hlm hls hle RTw HLD HLT V3 K3 j0 j1 j2 j3 j5
        obtain ⟨ws, hws⟩ : ∃ x, weightB l = x := ⟨_, rfl⟩
        rw [hws] at HW1 E3
        have hwq : (ws == ws) = true := by simp
        clear hws
        go_wp2_with (first
          | (go_at_call 7
             first
               | (with_reducible refine (HS1.out _ K4.out).mono ?_
                  go_must (rintro e w5 ⟨v5, rfl, hv⟩)
                  go_must (have V5 := Lib.hid hv)
                  go_must (obtain ⟨A5, m5, c5, rfl⟩ := BkV.form' hv)
                  go_must (have V4 := Lib.hid (LV.go BkOk V4.out (LV.kept hv)))
                  go_must (have K5 := Lib.hid (K4.out.trans (LV.kept hv) (by simp)))
                  clear hv)
               | (go_must (obtain ⟨G4, hG4, hG5⟩ := LV.arr BkOk V4.out)
                  go_must (have hl4 := BkArr.len hG4)
                  go_must (refine (gSort_any _ lm hG4 hG5 (by have := HML.out; omega)).mono ?_)
                  rintro e w6 ⟨v6, rfl, hv⟩
                  rw [← E1.out] at hv
                  have V6 := Lib.hid hv
                  obtain ⟨A6, m6, c6, rfl⟩ := BkV.form' hv
                  have V5 := Lib.hid (LV.go BkOk V5.out (LV.kept hv))
                  have K6 := Lib.hid (K5.out.trans (LV.kept hv) (by simp))
                  clear hv hG4 hG5 hl4))
          | (go_at_call 12
             obtain ⟨G5, hG5, _⟩ := LV.arr BkOk V5.out
             obtain ⟨G6, hG6, _⟩ := LV.arr BkOk V6.out
             have hm5 : m5 = m := by have h9 := BkArr.len hG5; have := E2.out; have := A1.out; omega
             subst hm5
             refine (rSameBs_any _ ls ls hG5 hG6).mono ?_
             rintro e w7 ⟨rfl, k1⟩
             rw [E4.out]
             have V5 := Lib.hid (LV.go BkOk V5.out k1)
             have K7 := Lib.hid (K6.out.trans k1 (by simp))
             clear k1 hG5 hG6)
          | (go_at_call 13
             first
               | (with_reducible refine (HW1.out _ K7.out).mono ?_
                  rintro e w8 ⟨rfl, k1⟩
                  have V5 := Lib.hid (LV.go BkOk V5.out k1)
                  have K8 := Lib.hid (K7.out.trans k1 (by simp))
                  clear k1)
               | (obtain ⟨G5, hG5, _⟩ := LV.arr BkOk V5.out
                  have hl5 := BkArr.len hG5
                  refine (gWeight_any _ ls hG5 (by omega)).mono ?_
                  rintro e w9 ⟨rfl, k1⟩
                  rw [E3.out]
                  have K9 := Lib.hid (K8.out.trans k1 (by simp))
                  clear k1 hG5 hl5))
          | (go_at_call 6
             refine (HA.out _ K9.out).mono ?_
             rintro e w10 ⟨rfl, k1⟩
             have K10 := Lib.hid (K9.out.trans k1 (by simp))
             clear k1))
        go_ret
        exact ⟨rfl, K10.out⟩
theorem GensSorted_walk {H : Type} {enc : TypeId × Value → H} {S : Prop} (W : World) (base : Nat) (v0 : Value) (d0 : DataW H) (p0 : List MemPlace) (v1 : Value) (d1 : DataW H) (p1 : List MemPlace)
    (hv0 : Value.okWide Tryd.prog W .any base 22 v0) (hv1 : Value.okWide Tryd.prog W .any base 3 v1)
    (h0 : DataW.Trod enc Tryd.prog W 0 (fun _ => true) true 22 v0 d0 p0) (h1 : DataW.Trod enc Tryd.prog W 0 (fun _ => true) true 3 v1 d1 p1) (_ : S) (ht : PowTab W) (m : Int) (hm : W.cell? ⟨0, 0, none⟩ = some (.int .i64 m)) :
    Calls Tryd.prog 4 #[v0, v1] W fun e W' => e = .returned (.bool true) ∧ Below W.heap.size W W' := by
  obtain ⟨A, n, c, l, rfl, hl, _⟩ := open_listN hv0 h0
  obtain ⟨t, rfl, _⟩ := open_i64N hv1 h1
  exact (GensSorted_at W l t hl (fun k hk => List.mem_range.1 hk) m hm ht).mono fun e W' ⟨h, hk⟩ => ⟨h, hk.below (Nat.le_refl _) (by simp)⟩
end Go.Proofs.YtpbebadbnkimeaaDoor
