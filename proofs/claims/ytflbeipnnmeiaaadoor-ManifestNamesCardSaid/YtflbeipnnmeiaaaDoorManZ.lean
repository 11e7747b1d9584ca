
/-
  A manifest that every program must know; a manifest among a law's arguments, opened.
-/
import Derived.Test.YtflbeipnnmeiaaaDoorManE
import Derived.Test.YtflbeipnnmeiaaaDoorManF
import Derived.Test.YtflbeipnnmeiaaaDoorManC
import Derived.Test.YtflbeipnnmeiaaaDoorManB
import Derived.Test.YtflbeipnnmeiaaaDoorArgs
namespace Go.Proofs.YtflbeipnnmeiaaaDoor
open Go.RowKit Go.ChangeShapes Go.WideShapes Go.ChangeAt Go.Deep
set_option linter.unusedVariables false
set_option maxRecDepth 100000

theorem IntArr.one {w : World} {g : Nat} {n : Int} (h : Blk w g 3 #[.int .i64 n]) (hn : -9223372036854775808 ≤ n ∧ n ≤ 9223372036854775807) : IntArr w [g] (.slice (some ⟨g, 0, none⟩) 1 1) [n] := by
  refine ⟨_, 1, 1, rfl, rfl, by omega, by unfold maxLen; omega, fun h => by simp at h, fun _ => ⟨g, 0, rfl, by simp, h.lt, fun i a hi => ?_⟩⟩
  match i, hi with
  | 0, hi =>
    obtain rfl : n = a := by simpa using hi
    refine ⟨[.int .i64 n], rfl, ⟨rfl, hn⟩, fun j hj => ?_⟩
    obtain rfl : j = 0 := by omega
    exact h.cell 0
  | i + 1, hi => simp at hi
set_option maxHeartbeats 1600000 in
theorem awake5_any (w : World) : Calls Tryd.prog 20 #[] w fun e w' => e = .returned (.bool true) ∧ Kept [] w w' := by
  have hm : mayM ⟨2, 8, [7]⟩ = true := by decide
  have h1 : encME ⟨2, 8, [7]⟩ = 0 := by unfold encME; rw [if_pos hm]
  have hb := man_back hm
  obtain ⟨bs, hbs⟩ : ∃ bs, encMF ⟨2, 8, [7]⟩ = bs := ⟨_, rfl⟩
  rw [hbs] at hb
  have hs : strOf (nameF 7) = ⟨#[115, 48, 48, 48, 48, 48, 55]⟩ := by decide +kernel
  have HB := Lib.hid hb
  have HS := Lib.hid hs
  have H1 := Lib.hid h1
  have HBS := Lib.hid hbs
  clear hb hs h1 hbs hm
  go_enter Tryd.func20, Tryd.ntmps20
  go_wp2_with (first
    | (go_at_call 40
       go_must (refine (mEncode_any _ ⟨2, 8, [7]⟩ (IntArr.one (Blk.new w _ _) (by omega))).mono ?_)
       go_must (rintro e w1 ⟨v, rfl, hN⟩)
       go_must (rw [HBS.out] at hN)
       go_must (rw [H1.out])
       go_must (have N := Lib.hid hN)
       go_must (obtain ⟨A1, m1, c1, rfl⟩ := hN.form)
       go_must (have K := Lib.hid (((Kept.refl [] w).alloc _).trans hN.kept (by simp)))
       go_must (clear hN))
    | (go_at_call 41
       go_must (refine (mDecode_any _ N.out.rd N.out.1.lt).mono ?_)
       go_must (rintro e w2 ⟨sl, rfl, hL⟩)
       go_must (rw [HB.out.1, HB.out.2] at *)
       go_must (have K := Lib.hid (K.out.trans hL.kept (by simp)))
       go_must (obtain ⟨css, G, hx⟩ := hL)
       go_must (obtain ⟨A2, c2, rfl, -, -⟩ := hx.own.form)
       go_must (clear hx))
    | (go_at_call 18
       go_must (refine (Name_any _ _).mono ?_)
       go_must (rintro e w3 ⟨rfl, k1⟩)
       go_must (rw [HS.out])))
  go_ret
  exact ⟨rfl, (K.out.alloc _).trans k1 (by simp)⟩
set_option maxRecDepth 100000 in
theorem open_man {H : Type} {enc : TypeId × Value → H} {w : World} {v : Value} {d : DataW H} {p : List MemPlace} {base : Nat} (hv : Value.okWide Tryd.prog w .any base 71 v) (h : DataW.Trod enc Tryd.prog w 0 (fun _ => true) true 71 v d p) :
    ∃ (x : ManD) (A : Option Addr) (m c : Nat), v = .agg #[.int .i64 x.ver, .int .i64 x.next, .slice A m c] ∧ IntArr w (old w) (.slice A m c) x.segs ∧ (-9223372036854775808 ≤ x.next ∧ x.next ≤ 9223372036854775807) := by
  obtain ⟨cs, rfl, _⟩ := okWide_struct Tryd.underlying71 hv
  obtain ⟨fuel, hf⟩ := h
  obtain ⟨xs, n, _, hx, hlen, hxl, hf⟩ := DataW.trod_struct Tryd.underlying71 hf
  have hl3 : (Value.agg cs).cells.toList.length = 3 := hlen.trans (by kernel_rfl)
  have hcs : (Value.agg cs).cells.toList = cs.toList := by simp [Value.cells]
  rw [hcs] at hl3 hf
  rw [← Array.toArray_toList (xs := cs)]
  generalize cs.toList = cl at *
  match cl, hl3 with
  | [c0, c1, c2], _ =>
    match xs, hxl with
    | [x0, x1, x2], _ =>
      have f0 := hf 0 _ rfl
      have f1 := hf 1 _ rfl
      have f2 := hf 2 _ rfl
      have k3 : Tryd.prog.cellsOf 3 = 1 := by kernel_rfl
      have k27 : Tryd.prog.cellsOf 69 = 1 := by kernel_rfl
      simp [k3, k27] at f0 f1 f2
      obtain ⟨a0, e0, _, w0⟩ := DataW.trod_int Tryd.underlying3 f0
      obtain ⟨a1, e1, _, w1⟩ := DataW.trod_int Tryd.underlying3 f1
      obtain ⟨A, m, c, E, D, e2, h2, h3, h4, h5, h6, h7⟩ := open_slice_at (n := 1) Tryd.underlying69 (by kernel_rfl) (by omega) f2
      obtain ⟨l, hl, hd, hs⟩ := list_of_dec (α := Int) (m := m) (E := E) (D := D) (Dec := fun cs a => IntDec w (old w) cs a) (bk := fun _ => 0) (fun i hi => by
        obtain ⟨_, fu, ps, ht⟩ := h6 i hi
        obtain ⟨a, e, _, wa⟩ := DataW.trod_int Tryd.underlying3 ht
        simp [Lit.wf, IntKind.min, IntKind.max, IntKind.signed, IntKind.bits] at wa
        exact ⟨a, ⟨e, by omega⟩, Nat.zero_le _⟩)
      simp only [List.cons.injEq, and_true] at e0 e1 e2
      subst e0 e1 e2
      refine ⟨⟨a0, a1, l⟩, A, m, c, rfl, ⟨A, m, c, rfl, hl, h2, h3, h4, fun hne => ?_⟩, by simp [Lit.wf, IntKind.min, IntKind.max, IntKind.signed, IntKind.bits] at w1; show -9223372036854775808 ≤ a1 ∧ a1 ≤ 9223372036854775807; omega⟩
      obtain ⟨g, o, e2, e3, e4⟩ := h5 (by
        rcases Nat.eq_zero_or_pos m with h0 | h0
        · subst h0; exact absurd (List.eq_nil_of_length_eq_zero hl) hne
        · exact h0)
      refine ⟨g, o, e2, List.mem_range.2 e3, e3, fun i a hi => ?_⟩
      have hlt : i < m := by have : i < l.length := (List.getElem?_eq_some_iff.1 hi).1; omega
      exact ⟨E i, (h6 i hlt).1, hd i a hi, fun j hj => e4 i j hlt hj⟩
end Go.Proofs.YtflbeipnnmeiaaaDoor
