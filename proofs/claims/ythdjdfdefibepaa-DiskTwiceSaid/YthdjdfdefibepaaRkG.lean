
/-
  The document's disk: a file put.
-/
import Derived.Test.YthdjdfdefibepaaRkF
namespace Go.Proofs.Ythdjdfdefibepaa
open Go.RowKit Go.ChangeShapes Go.WideShapes Go.ChangeAt Go.Deep Go.MapKept
set_option linter.unusedVariables false

theorem fv_blk {W w : World} {v : Value} {l : List FvD} (h : FvV W w v l) (hne : l ≠ []) : ∃ g c cur, v = .slice (some ⟨g, 0, none⟩) l.length c ∧ Blk w g 96 cur ∧ l.length ≤ c ∧ c ≤ maxLen ∧ W.heap.size ≤ g ∧ cur.size = c * 2 ∧
    ∀ (k : Nat) (x : FvD), l[k]? = some x → cur[k * 2]? = some (.slice x.A x.m x.c) ∧ cur[k * 2 + 1]? = some (.int .i64 (x.sure : Nat)) := by
  obtain ⟨css, G, h1, h2, h3, h4, h5⟩ := h
  rcases h1.2 with ⟨h0, h00⟩ | ⟨g, cap, cur, hv, _, hg, hn, hc, hs, ht⟩
  · exact absurd (List.eq_nil_of_length_eq_zero h00) hne
  · refine ⟨g, cap, cur, hv, hg, hn, hc, h2 g (by rw [hv]; simp [rowOf, Value.ownBlock]), hs, fun k x hx => ?_⟩
    have hlt := (List.getElem?_eq_some_iff.1 hx).1
    have hcs : css[k]? = some (css[k]'(by rw [h3.1]; exact hlt)) := List.getElem?_eq_getElem _
    have hd : css[k]'(by rw [h3.1]; exact hlt) = [.slice x.A x.m x.c, .int .i64 (x.sure : Nat)] := h3.2 k _ x hcs hx
    rw [hd] at hcs
    have f0 := flat_get (h3.lens FvOk) k 0 _ hcs (by omega)
    have f1 := flat_get (h3.lens FvOk) k 1 _ hcs (by omega)
    rw [← ht] at f0 f1
    have hb : k * 2 + 1 < l.length * 2 := by omega
    rw [List.getElem?_take_of_lt (by omega)] at f0 f1
    exact ⟨by simpa using f0, by simpa using f1⟩
theorem blk_fv {w : World} {g c : Nat} {cur : Array Value} {l : List FvD} (hb : Blk w g 96 cur) (h1 : l.length ≤ c) (h2 : c ≤ maxLen)
    (h : ∀ (k : Nat) (x : FvD), l[k]? = some x → cur[k * 2]? = some (.slice x.A x.m x.c) ∧ cur[k * 2 + 1]? = some (.int .i64 (x.sure : Nat))) : FvArr w [g] (.slice (some ⟨g, 0, none⟩) l.length c) l := by
  refine ⟨_, _, _, rfl, rfl, h1, h2, by simp, fun _ => ⟨g, 0, rfl, by simp, hb.lt, fun k x hx => ⟨_, rfl, rfl, fun j hj => ?_⟩⟩⟩
  obtain ⟨e0, e1⟩ := h k x hx
  rw [hb.cell, Nat.zero_add]
  rcases j with _ | _ | j
  · exact e0
  · exact e1
  · omega
theorem set_cells {cur : Array Value} {c i : Nat} {l : List FvD} {x : FvD} (hs : cur.size = c * 2) (hl : l.length ≤ c) (hi : i < l.length)
    (h : ∀ (k : Nat) (x : FvD), l[k]? = some x → cur[k * 2]? = some (.slice x.A x.m x.c) ∧ cur[k * 2 + 1]? = some (.int .i64 (x.sure : Nat))) :
    ∀ (k : Nat) (y : FvD), (l.set i x)[k]? = some y → ((cur.setIfInBounds (i * 2) (.slice x.A x.m x.c)).setIfInBounds (i * 2 + 1) (.int .i64 (x.sure : Nat)))[k * 2]? = some (.slice y.A y.m y.c) ∧ ((cur.setIfInBounds (i * 2) (.slice x.A x.m x.c)).setIfInBounds (i * 2 + 1) (.int .i64 (x.sure : Nat)))[k * 2 + 1]? = some (.int .i64 (y.sure : Nat)) := by
  intro k y hy
  by_cases hk : i = k
  · subst hk
    rw [List.getElem?_set_self hi] at hy
    injection hy with hy
    subst hy
    refine ⟨?_, ?_⟩
    · rw [Array.getElem?_setIfInBounds_ne (by omega), Array.getElem?_setIfInBounds_self_of_lt (by omega)]
    · rw [Array.getElem?_setIfInBounds_self_of_lt (by simp; omega)]
  · rw [List.getElem?_set_ne hk] at hy
    obtain ⟨e0, e1⟩ := h k y hy
    rw [Array.getElem?_setIfInBounds_ne (by omega), Array.getElem?_setIfInBounds_ne (by omega), Array.getElem?_setIfInBounds_ne (by omega), Array.getElem?_setIfInBounds_ne (by omega)]
    exact ⟨e0, e1⟩
section
variable {w w' : World} {p : Nat} {H : List Nat} {vs : List FvD} {M : RkD} {A1 A2 A3 A4 : Option Addr} {c1 c2 c3 c4 : Nat}
theorem FbAt.set {G Gb : List Nat} {fs : List FlE} (h : FbAt w G vs fs) {B : Option Addr} {n d s i : Nat} {b : Bs} (hb : RdB w Gb (.slice B n d) b) : FbAt w (G ++ Gb) (vs.set i ⟨B, n, d, s⟩) (fs.set i ⟨b, s⟩) := by
  refine ⟨by rw [List.length_set, List.length_set]; exact h.1, fun k q f h1 h2 => ?_⟩
  by_cases hk : i = k
  · subst hk
    have hv := (List.getElem?_eq_some_iff.1 h1).1
    have hf := (List.getElem?_eq_some_iff.1 h2).1
    rw [List.length_set] at hv hf
    rw [List.getElem?_set_self hv] at h1
    rw [List.getElem?_set_self hf] at h2
    injection h1 with h1
    injection h2 with h2
    subst h1 h2
    exact ⟨hb.mono (fun k hk => List.mem_append_right _ hk), rfl⟩
  · rw [List.getElem?_set_ne hk] at h1 h2
    exact ⟨(h.2 k q f h1 h2).1.mono (fun k hk => List.mem_append_left _ hk), (h.2 k q f h1 h2).2⟩
theorem RkTo.from {wm : World} {H2 : List Nat} {M' : RkD} (h : RkTo wm p H2 M' w') (hk : Kept [p] w wm) (hH : ∀ k ∈ H2, k ∈ H ∨ w.heap.size ≤ k) : RkTo w p H M' w' := by
  obtain ⟨H', vs, B1, d1, B2, d2, B3, d3, B4, d4, h1, h2, h3⟩ := h
  refine ⟨H', vs, B1, d1, B2, d2, B3, d3, B4, d4, h1, hk.trans h2 (fun i hi => .inl hi), fun k hm => ?_⟩
  rcases h3 k hm with h4 | h4
  · exact hH k h4
  · exact .inr (Nat.le_trans hk.size h4)
set_option maxHeartbeats 6400000 in
theorem rput_any (h : RkX w p H vs M A1 c1 A2 c2 A3 c3 A4 c4) {i : Nat} (hi : i < M.files.length) {B : Option Addr} {n d s : Nat} {b : Bs} {Gb : List Nat} (hb : RdB w Gb (.slice B n d) b) (hp : p ∉ Gb) (hGb : ∀ k ∈ Gb, k < w.heap.size) (hm : M.files.length ≤ 10000) :
    Calls Try.prog 66 #[.pointer (some ⟨p, 0, none⟩), .int .i64 (i : Nat), .agg #[.slice B n d, .int .i64 (s : Nat)]] w fun e w' => e = .returned (.tuple #[]) ∧ RkTo w p (H ++ Gb) { M with files := M.files.set i ⟨b, s⟩ } w' := by
  have HX := Lib.hid h
  have HB := Lib.hid hb
  have HP := Lib.hid hp
  have GB := Lib.hid hGb
  have hpl := h.blk.lt
  have HV := Lib.hid h.fb.1
  obtain ⟨w0, hw0⟩ : ∃ w0, w.alloc (.cells #[.slice B n d, .int .i64 (s : Nat)] 96) = w0 := ⟨_, rfl⟩
  have K0 := Lib.hid (hw0 ▸ (Kept.refl [] w).alloc _ : Kept [] w w0)
  have Q0 := Lib.hid (hw0 ▸ Blk.new w _ _ : Blk w0 w.heap.size 96 #[.slice B n d, .int .i64 (s : Nat)])
  have B0 := Lib.hid (h.blk.kept K0.out (by simp))
  have N0 := Lib.hid (h.fv.kept K0.out (by simp))
  have HL1 := Lib.hid (show ([] : List FvD).length + vs.length ≤ 100000 by rw [HV.out]; simp; omega)
  have hpl0 : p < w0.heap.size := Nat.lt_of_lt_of_le hpl K0.out.size
  have hql0 : w.heap.size < w0.heap.size := Q0.out.lt
  have i0 : (0 : Int) ≤ (i : Int) := by omega
  have i1 : (i : Int) < (M.files.length : Int) := by omega
  clear h hb hp hGb
  have hx0 := B0.out.cell
  have hf0 := B0.out.frozen
  go_enter Try.func66, Try.ntmps66
  go_upto_region 2 with (first
    | (at_builtin
       have hN7 := (LV.nil (Kept.refl [] w0) : FvV w0 w0 (.slice none 0 0) [])
       apply wpList_lvs (l2 := vs) FvOk elem_fv (fun h => h) (by omega) rfl (.const (.slice none 0 0)) (.tmp 10) rfl
       case hs => exact rfl
       case hN => exact hN7
       case hx => exact rfl
       case hb => exact N0.out
       case hl => exact HL1.out
       intro A7 m7 c7 w7 h7 k7 r7
       have V7 := Lib.hid h7
       have K7 := Lib.hid (show Kept [] w0 w7 from k7)
       have B7 := Lib.hid (B0.out.kept K7.out (by simp))
       have Q7 := Lib.hid (Q0.out.kept K7.out (by simp))
       have hx7 := B7.out.cell
       have hf7 := B7.out.frozen
       have hl7 := B7.out.lt
       clear h7 k7 r7 hN7))
  clear hw0 hx0 hf0 hx7 hf7 hl7
  obtain ⟨g, cc, cur, hv7, hbg, q1, q2, q3, q4, q5⟩ := fv_blk V7.out (fun e => by
    have h9 : vs = [] := (by simpa using e)
    have h8 := HV.out
    rw [h9, List.length_nil] at h8
    omega)
  injection hv7 with e1 e2 e3
  subst e1 e3
  have hvl : m7 = M.files.length := by rw [e2]; simpa using HV.out
  subst hvl
  clear e2
  have hgp : g ≠ p := by omega
  have hgq : g ≠ w.heap.size := by omega
  have B8 := Lib.hid (show Blk (w7.setCell ⟨p, 0, none⟩ (.slice (some ⟨g, 0, none⟩) M.files.length c7)) p 87 #[.slice (some ⟨g, 0, none⟩) M.files.length c7, .slice A2 M.now.length c2, .slice A3 M.sur.length c3, .slice A4 M.ch.length c4, .int .i64 M.quota, .int .i64 M.n, .int .i64 M.fail] from B7.out.set 0 _)
  have K8 := Lib.hid ((Kept.refl [p] w7).setCell (p := ⟨p, 0, none⟩) (.inl (by simp)) (.slice (some ⟨g, 0, none⟩) M.files.length c7))
  have Q8 := Lib.hid (Q7.out.kept K8.out (by simp; omega))
  have G8 := Lib.hid (hbg.kept K8.out (by simp; omega))
  generalize w7.setCell ⟨p, 0, none⟩ (.slice (some ⟨g, 0, none⟩) M.files.length c7) = w8 at *
  have KW8 := Lib.hid (((K0.out.trans K7.out (by simp)).mono (by simp)).trans K8.out (fun i hi => .inl hi) : Kept [p] w w8)
  obtain ⟨x, hx⟩ : ∃ x, vs[i]? = some x := ⟨_, List.getElem?_eq_getElem (by rw [HV.out]; exact hi)⟩
  have q5' := fun k y hy => q5 k y (by simpa using hy)
  obtain ⟨z0, z1⟩ := q5' i x hx
  have HC := Lib.hid (set_cells (x := ⟨B, n, d, s⟩) q4 (by simpa using q1) (by rw [HV.out]; exact hi) q5')
  have CL := Lib.hid q1
  have CM := Lib.hid q2
  clear q5 q5' hx q1 q2 hbg V7
  have hx8 := B8.out.cell
  have hq8 := Q8.out.cell
  have hg8 := G8.out.cell
  have hgf := G8.out.frozen
  have hgl := G8.out.lt
  refine wp_region_held_drew (S := (fun w' => (∀ i, w'.cell? ⟨p, i, none⟩ = (#[.slice (some ⟨g, 0, none⟩) M.files.length c7, .slice A2 M.now.length c2, .slice A3 M.sur.length c3, .slice A4 M.ch.length c4, .int .i64 M.quota, .int .i64 M.n, .int .i64 M.fail] : Array Value)[i]?) ∧ ∀ i, w'.cell? ⟨w.heap.size, i, none⟩ = (#[.slice B n d, .int .i64 (s : Nat)] : Array Value)[i]?)) (by kernel_rfl) (⟨fun i => hx8 i, fun i => hq8 i⟩) (fun hHeld => ?_)
  refine wpAnyH_take (i := 0) (oi := ⟨some 14, _, _, _, _, _⟩) (v := ?vh1_1) rfl (by kernel_rfl) (by kernel_rfl) (by kernel_rfl) (fun _ _ _ h => h) (Or.inl ⟨by kernel_rfl, ?hyh1_1⟩) (by assumption) ?resth1_1
  case hyh1_1 => (intro w99 hSw; (try dsimp only at hSw); obtain ⟨hs1, hs2⟩ := hSw; (try go_simp); (try with_reducible rfl); (try omega))
  simp only [Act.put, List.setIfInBounds_toArray, List.set_cons_zero, List.set_cons_succ]
  refine wpAnyH_take (i := 1) (oi := ⟨some 15, _, _, _, _, _⟩) (v := ?vh1_2) rfl (by kernel_rfl) (by kernel_rfl) (by kernel_rfl) (fun _ _ _ h => h) (Or.inl ⟨by kernel_rfl, ?hyh1_2⟩) (by assumption) ?resth1_2
  case hyh1_2 => (intro w99 hSw; (try dsimp only at hSw); obtain ⟨hs1, hs2⟩ := hSw; (try go_simp); (try with_reducible rfl); (try omega))
  simp only [Act.put, List.setIfInBounds_toArray, List.set_cons_zero, List.set_cons_succ]
  refine wpAnyH_take (i := 2) (oi := ⟨some 16, _, _, _, _, _⟩) (v := ?vh1_3) rfl (by kernel_rfl) (by kernel_rfl) (by kernel_rfl) (fun _ _ _ h => h) (Or.inl ⟨by kernel_rfl, ?hyh1_3⟩) (by assumption) ?resth1_3
  case hyh1_3 => (intro w99 hSw; (try dsimp only at hSw); obtain ⟨hs1, hs2⟩ := hSw; (try go_simp); (try with_reducible rfl); (try omega))
  simp only [Act.put, List.setIfInBounds_toArray, List.set_cons_zero, List.set_cons_succ]
  refine wpAnyH_take (i := 3) (oi := ⟨some 17, _, _, _, _, _⟩) (v := ?vh1_4) rfl (by kernel_rfl) (by kernel_rfl) (by kernel_rfl) (fun _ _ _ h => h) (Or.inl ⟨by kernel_rfl, ?hyh1_4⟩) (by assumption) ?resth1_4
  case hyh1_4 => (intro w99 hSw; (try dsimp only at hSw); obtain ⟨hs1, hs2⟩ := hSw; (try go_simp); (try with_reducible rfl); (try omega))
  simp only [Act.put, List.setIfInBounds_toArray, List.set_cons_zero, List.set_cons_succ]
  refine wpAnyH_take (i := 4) (oi := ⟨some 18, _, _, _, _, _⟩) (v := ?vh1_5) rfl (by kernel_rfl) (by kernel_rfl) (by kernel_rfl) (fun _ _ _ h => h) (Or.inl ⟨by kernel_rfl, ?hyh1_5⟩) (by assumption) ?resth1_5
  case hyh1_5 => (intro w99 hSw; (try dsimp only at hSw); obtain ⟨hs1, hs2⟩ := hSw; (try go_simp); (try with_reducible rfl); (try omega))
  simp only [Act.put, List.setIfInBounds_toArray, List.set_cons_zero, List.set_cons_succ]
  refine wpAnyH_take (i := 5) (oi := ⟨some 19, _, _, _, _, _⟩) (v := ?vh1_6) rfl (by kernel_rfl) (by kernel_rfl) (by kernel_rfl) (fun _ _ _ h => h) (Or.inl ⟨by kernel_rfl, ?hyh1_6⟩) (by assumption) ?resth1_6
  case hyh1_6 => (intro w99 hSw; (try dsimp only at hSw); obtain ⟨hs1, hs2⟩ := hSw; (try go_simp); (try with_reducible rfl); (try omega))
  simp only [Act.put, List.setIfInBounds_toArray, List.set_cons_zero, List.set_cons_succ]
  refine wpAnyH_take (i := 6) (oi := ⟨some 20, _, _, _, _, _⟩) (v := ?vh1_7) rfl (by kernel_rfl) (by kernel_rfl) (by kernel_rfl) (fun _ _ _ h => h) (Or.inl ⟨by kernel_rfl, ?hyh1_7⟩) (by assumption) ?resth1_7
  case hyh1_7 => (intro w99 hSw; (try dsimp only at hSw); obtain ⟨hs1, hs2⟩ := hSw; (try go_simp); (try with_reducible rfl); (try omega))
  simp only [Act.put, List.setIfInBounds_toArray, List.set_cons_zero, List.set_cons_succ]
  refine wpAnyH_ready (rs := [7]) (by kernel_rfl) (by simp) ?_
  refine AllReadyH.cons (o := ⟨none, _, _, _, _, _⟩) rfl (fun KQ hKQ => ?w7h1_8) AllReadyH.nil
  case w7h1_8 =>
    go_simp
    refine hKQ.out _ _ (⟨fun j => ((B8.out.drew.far (p := ⟨g, i * 2, none⟩) (by show p ≠ g; omega) _).far (p := ⟨g, i * 2 + 1, none⟩) (by show p ≠ g; omega) _).cell j, fun j => ((Q8.out.drew.far (p := ⟨g, i * 2, none⟩) (by show w.heap.size ≠ g; omega) _).far (p := ⟨g, i * 2 + 1, none⟩) (by show w.heap.size ≠ g; omega) _).cell j⟩) (fun hHeld9 => ?_)
    clear hKQ KQ hHeld
    have hHeld := hHeld9
    clear hHeld9
    try simp only [Act.put, List.setIfInBounds_toArray, List.set_cons_zero, List.set_cons_succ]
    refine wpAnyH_done (by kernel_rfl) ?_ _
    clear hHeld
    go_wp2
    go_end0
    refine ⟨rfl, ?_⟩
    have kz := (((Kept.refl [g] w8).setCell (p := ⟨g, i * 2, none⟩) (.inl (by simp)) (.slice B n d)).setCell (p := ⟨g, i * 2 + 1, none⟩) (.inl (by simp)) (.int .i64 (s : Nat))).drew
    have bz := ((G8.out.set (i * 2) (.slice B n d)).set (i * 2 + 1) (.int .i64 (s : Nat))).drew
    have pz := B8.out.kept kz (by simp; omega)
    have gw : w.heap.size ≤ g := by omega
    have kall := KW8.out.trans kz (fun i hi => .inr (by simp at hi; omega))
    have arr := blk_fv (l := vs.set i ⟨B, n, d, s⟩) bz (by simpa using CL.out) CM.out HC.out
    have hgz := Nat.lt_of_lt_of_le hgl kz.size
    have HM : ∀ k ∈ H, k ∉ [p] := HX.out.hd
    have FB := (HX.out.fb.set (i := i) (s := s) HB.out).kept kall (fun k hk hm => by
      simp at hm
      subst hm
      rcases List.mem_append.1 hk with h1 | h1
      · exact HX.out.pn h1
      · exact HP.out h1)
    refine RkTo.mk (M' := { M with files := M.files.set i ⟨b, s⟩ }) (G1 := [g]) (G2 := H) (G3 := H) (G4 := H) (G5 := H ++ Gb) hpl (by simp only [List.mem_append]; exact fun hm => hm.elim HX.out.pn HP.out) kall (by rw [List.length_set]; exact pz) ?_ (HX.out.nw.kept kall HM) (HX.out.sr.kept kall HM) (HX.out.cv.kept kall HM) FB ?_ ?_ ?_ ?_ ?_
    · rw [List.length_set] at arr ⊢
      rw [HV.out] at arr
      exact arr
    · intro k hk
      simp at hk
      subst hk
      exact ⟨.inr gw, hgz⟩
    · exact fun k hk => ⟨.inl (List.mem_append_left _ hk), Nat.lt_of_lt_of_le (HX.out.lt k hk) kall.size⟩
    · exact fun k hk => ⟨.inl (List.mem_append_left _ hk), Nat.lt_of_lt_of_le (HX.out.lt k hk) kall.size⟩
    · exact fun k hk => ⟨.inl (List.mem_append_left _ hk), Nat.lt_of_lt_of_le (HX.out.lt k hk) kall.size⟩
    · intro k hk
      refine ⟨.inl hk, ?_⟩
      rcases List.mem_append.1 hk with h1 | h1
      · exact Nat.lt_of_lt_of_le (HX.out.lt k h1) kall.size
      · exact Nat.lt_of_lt_of_le (GB.out k h1) kall.size
end
end Go.Proofs.Ythdjdfdefibepaa
