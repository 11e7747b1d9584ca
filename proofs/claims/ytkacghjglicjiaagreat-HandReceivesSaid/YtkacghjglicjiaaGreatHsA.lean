/-
  Streams of records: plain laws. What is sent is received; a beginning, a byte changed, two streams are refused.
-/
import Derived.Test.YtkacghjglicjiaaGreatSvI
import Derived.Test.YtkacghjglicjiaaGreatRecE
import Derived.Test.YtkacghjglicjiaaGreatRecG
import Derived.Test.YtkacghjglicjiaaGreatRecP
import Derived.Test.YtkacghjglicjiaaGreatSuD
namespace Go.Proofs.YtkacghjglicjiaaGreat
set_option linter.unusedVariables false
section
open Go.RowKit Go.ChangeShapes Go.WideShapes Go.ChangeAt Go.Deep Go.MapKept
def sameRs : List RecD → List RecD → Bool
  | [], [] => true
  | a :: l, b :: l' => sameR a b && sameRs l l'
  | _, _ => false
theorem sameRs_drop {l l' : List RecD} {k : Nat} (h : k < l.length) (h' : k < l'.length) : sameRs (l.drop k) (l'.drop k) = (sameR l[k] l'[k] && sameRs (l.drop (k + 1)) (l'.drop (k + 1))) := by
  rw [← List.getElem_cons_drop (h := h), ← List.getElem_cons_drop (h := h')]; rfl
set_option maxRecDepth 100000 in
set_option maxHeartbeats 3200000 in
theorem rSameRs_any (w : World) {G1 G2 : List Nat} {A B : Option Addr} {m c d : Nat} (l l' : List RecD) (h1 : RecArr w G1 (.slice A m c) l) (h2 : RecArr w G2 (.slice B m d) l') (hG1 : ∀ k ∈ G1, k < w.heap.size) (hG2 : ∀ k ∈ G2, k < w.heap.size) (hb1 : ∀ r ∈ l, r.backs.length ≤ 1000) (hb2 : ∀ r ∈ l', r.backs.length ≤ 1000) :
    Calls Tryz.prog 39 #[.slice A m c, .slice B m d] w fun e w' => e = .returned (.bool (sameRs l l')) ∧ Kept [] w w' := by
  obtain ⟨a1, a2, a3, a4⟩ := h1.len
  obtain ⟨b1, b2, b3, b4⟩ := h2.len
  have H1 := Lib.hid h1
  have H2 := Lib.hid h2
  have A1 := Lib.hid a1
  have B1 := Lib.hid b1
  have HG1 := Lib.hid hG1
  have HG2 := Lib.hid hG2
  have HL1 := Lib.hid hb1
  have HL2 := Lib.hid hb2
  clear h1 h2 a1 b1 a4 b4 hG1 hG2 hb1 hb2
  unfold maxLen at a3 b3
  go_enter Tryz.func39, Tryz.ntmps39
  go_wp2
  go_loopg [13] m (fun gg i wr => ∃ k : Nat, k ≤ m ∧ gg = m - k ∧ i = .int .i64 k ∧ sameRs l l' = sameRs (l.drop k) (l'.drop k) ∧ Kept [] w wr)
  case atStart => exact ⟨0, by omega, by omega, rfl, by simp, Kept.refl _ _⟩
  case round =>
    obtain ⟨k, hk, rfl, rfl, hs, hkw⟩ := hrel
    have Hs := Lib.hid hs
    have Hkw := Lib.hid hkw
    clear hs hkw
    by_cases hlt : k < m
    · have hkl : k < l.length := by rw [A1.out]; exact hlt
      have hkl' : k < l'.length := by rw [B1.out]; exact hlt
      obtain ⟨g, o, B1v, n1, d1, rfl, hg, hgG, hat, hbk⟩ := (RecArr.kept H1.out Hkw.out (by simp)).at (k := k) hkl
      obtain ⟨g', o', B2v, n2, d2, rfl, hg', hgG', hat', hbk'⟩ := (RecArr.kept H2.out Hkw.out (by simp)).at (k := k) hkl'
      have HB1 := Lib.hid hbk
      have HB2 := Lib.hid hbk'
      have hn1 : n1 ≤ 1000 := by rw [← hbk.len.1]; exact HL1.out _ (List.getElem_mem hkl)
      have hn2 : n2 ≤ 1000 := by rw [← hbk'.len.1]; exact HL2.out _ (List.getElem_mem hkl')
      have Hd := Lib.hid (sameRs_drop (l := l) (l' := l') hkl hkl')
      clear hbk hbk'
      generalize l[k]'hkl = x at *
      generalize l'[k]'hkl' = y at *
      obtain ⟨c0, c1, c2, c3, c4, c5, c6, c7, c8, c9, c10, c11, c12, c13⟩ := hat
      obtain ⟨e0, e1, e2, e3, e4, e5, e6, e7, e8, e9, e10, e11, e12, e13⟩ := hat'
      have i0 : (0 : Int) ≤ (k : Int) := by omega
      have i1 : (k : Int) < (m : Int) := by omega
      have iw : IntKind.i64.wrap ((k : Int) + 1) = (k : Int) + 1 := IntWalk.i64_in _ (by omega)
      have KD := Lib.hid ((Kept.refl [] wr).drew)
      have KWD := Lib.hid (Hkw.out.drew)
      obtain ⟨b, hb⟩ : ∃ b, sameR x y = b := ⟨_, rfl⟩
      have HE := Lib.hid hb
      rw [hb] at Hd
      clear hb hkl hkl'
      cases b
      · have hres := Lib.hid (show sameRs l l' = false by rw [Hs.out, Hd.out]; rfl)
        go_wp2
        go_region_held3 (fun w' => (w'.cell? ⟨g, o + k * 14, none⟩ = some (.int .i64 x.kind) ∧ w'.cell? ⟨g, o + k * 14 + 1, none⟩ = some (.int .u32 (x.tup.src.toNat : Nat)) ∧ w'.cell? ⟨g, o + k * 14 + 2, none⟩ = some (.int .u32 (x.tup.dst.toNat : Nat)) ∧ w'.cell? ⟨g, o + k * 14 + 3, none⟩ = some (.int .i64 x.tup.proto) ∧ w'.cell? ⟨g, o + k * 14 + 4, none⟩ = some (.int .i64 x.tup.sport) ∧ w'.cell? ⟨g, o + k * 14 + 5, none⟩ = some (.int .i64 x.tup.dport) ∧ w'.cell? ⟨g, o + k * 14 + 6, none⟩ = some (.int .i64 x.fb) ∧ w'.cell? ⟨g, o + k * 14 + 7, none⟩ = some (.int .i64 x.fg) ∧ w'.cell? ⟨g, o + k * 14 + 8, none⟩ = some (.int .i64 x.fs) ∧ w'.cell? ⟨g, o + k * 14 + 9, none⟩ = some (.int .i64 x.gen) ∧ w'.cell? ⟨g, o + k * 14 + 10, none⟩ = some (.slice B1v n1 d1) ∧ w'.cell? ⟨g, o + k * 14 + 11, none⟩ = some (.int .i64 x.back) ∧ w'.cell? ⟨g, o + k * 14 + 12, none⟩ = some (.int .i64 x.until_) ∧ w'.cell? ⟨g, o + k * 14 + 13, none⟩ = some (.int .i64 x.count)) ∧ (w'.cell? ⟨g', o' + k * 14, none⟩ = some (.int .i64 y.kind) ∧ w'.cell? ⟨g', o' + k * 14 + 1, none⟩ = some (.int .u32 (y.tup.src.toNat : Nat)) ∧ w'.cell? ⟨g', o' + k * 14 + 2, none⟩ = some (.int .u32 (y.tup.dst.toNat : Nat)) ∧ w'.cell? ⟨g', o' + k * 14 + 3, none⟩ = some (.int .i64 y.tup.proto) ∧ w'.cell? ⟨g', o' + k * 14 + 4, none⟩ = some (.int .i64 y.tup.sport) ∧ w'.cell? ⟨g', o' + k * 14 + 5, none⟩ = some (.int .i64 y.tup.dport) ∧ w'.cell? ⟨g', o' + k * 14 + 6, none⟩ = some (.int .i64 y.fb) ∧ w'.cell? ⟨g', o' + k * 14 + 7, none⟩ = some (.int .i64 y.fg) ∧ w'.cell? ⟨g', o' + k * 14 + 8, none⟩ = some (.int .i64 y.fs) ∧ w'.cell? ⟨g', o' + k * 14 + 9, none⟩ = some (.int .i64 y.gen) ∧ w'.cell? ⟨g', o' + k * 14 + 10, none⟩ = some (.slice B2v n2 d2) ∧ w'.cell? ⟨g', o' + k * 14 + 11, none⟩ = some (.int .i64 y.back) ∧ w'.cell? ⟨g', o' + k * 14 + 12, none⟩ = some (.int .i64 y.until_) ∧ w'.cell? ⟨g', o' + k * 14 + 13, none⟩ = some (.int .i64 y.count)))
          (first | exact ⟨⟨c0, c1, c2, c3, c4, c5, c6, c7, c8, c9, c10, c11, c12, c13⟩, ⟨e0, e1, e2, e3, e4, e5, e6, e7, e8, e9, e10, e11, e12, e13⟩⟩ | exact ⟨⟨(K6.out.cell (p := ⟨g, o + k * 14, none⟩) hg (by simp)).trans c0, (K6.out.cell (p := ⟨g, o + k * 14 + 1, none⟩) hg (by simp)).trans c1, (K6.out.cell (p := ⟨g, o + k * 14 + 2, none⟩) hg (by simp)).trans c2, (K6.out.cell (p := ⟨g, o + k * 14 + 3, none⟩) hg (by simp)).trans c3, (K6.out.cell (p := ⟨g, o + k * 14 + 4, none⟩) hg (by simp)).trans c4, (K6.out.cell (p := ⟨g, o + k * 14 + 5, none⟩) hg (by simp)).trans c5, (K6.out.cell (p := ⟨g, o + k * 14 + 6, none⟩) hg (by simp)).trans c6, (K6.out.cell (p := ⟨g, o + k * 14 + 7, none⟩) hg (by simp)).trans c7, (K6.out.cell (p := ⟨g, o + k * 14 + 8, none⟩) hg (by simp)).trans c8, (K6.out.cell (p := ⟨g, o + k * 14 + 9, none⟩) hg (by simp)).trans c9, (K6.out.cell (p := ⟨g, o + k * 14 + 10, none⟩) hg (by simp)).trans c10, (K6.out.cell (p := ⟨g, o + k * 14 + 11, none⟩) hg (by simp)).trans c11, (K6.out.cell (p := ⟨g, o + k * 14 + 12, none⟩) hg (by simp)).trans c12, (K6.out.cell (p := ⟨g, o + k * 14 + 13, none⟩) hg (by simp)).trans c13⟩, ⟨(K6.out.cell (p := ⟨g', o' + k * 14, none⟩) hg' (by simp)).trans e0, (K6.out.cell (p := ⟨g', o' + k * 14 + 1, none⟩) hg' (by simp)).trans e1, (K6.out.cell (p := ⟨g', o' + k * 14 + 2, none⟩) hg' (by simp)).trans e2, (K6.out.cell (p := ⟨g', o' + k * 14 + 3, none⟩) hg' (by simp)).trans e3, (K6.out.cell (p := ⟨g', o' + k * 14 + 4, none⟩) hg' (by simp)).trans e4, (K6.out.cell (p := ⟨g', o' + k * 14 + 5, none⟩) hg' (by simp)).trans e5, (K6.out.cell (p := ⟨g', o' + k * 14 + 6, none⟩) hg' (by simp)).trans e6, (K6.out.cell (p := ⟨g', o' + k * 14 + 7, none⟩) hg' (by simp)).trans e7, (K6.out.cell (p := ⟨g', o' + k * 14 + 8, none⟩) hg' (by simp)).trans e8, (K6.out.cell (p := ⟨g', o' + k * 14 + 9, none⟩) hg' (by simp)).trans e9, (K6.out.cell (p := ⟨g', o' + k * 14 + 10, none⟩) hg' (by simp)).trans e10, (K6.out.cell (p := ⟨g', o' + k * 14 + 11, none⟩) hg' (by simp)).trans e11, (K6.out.cell (p := ⟨g', o' + k * 14 + 12, none⟩) hg' (by simp)).trans e12, (K6.out.cell (p := ⟨g', o' + k * 14 + 13, none⟩) hg' (by simp)).trans e13⟩⟩)
          ((go_at_call 85
            refine (rSameR_any _ x y (⟨BkArr.kept HB1.out KD.out (by simp), fun q hq => Nat.lt_of_lt_of_le (HG1.out q hq) KWD.out.size, by omega⟩ : SmallB _ G1 B1v n1 d1 x.backs) (⟨BkArr.kept HB2.out KD.out (by simp), fun q hq => Nat.lt_of_lt_of_le (HG2.out q hq) KWD.out.size, by omega⟩ : SmallB _ G2 B2v n2 d2 y.backs)).mono ?_
            rintro e w6 ⟨rfl, hk6⟩
            rw [HE.out]
            have K6 := Lib.hid (((Kept.refl [] wr).drew).trans hk6 (by simp))
            clear hk6))
        all_goals
          go_wp2
          go_ret
          exact ⟨ret_bool hres.out.symm, Hkw.out.trans K6.out (by simp)⟩
      · have hres := Lib.hid (show sameRs l l' = sameRs (l.drop (k + 1)) (l'.drop (k + 1)) by rw [Hs.out, Hd.out]; rfl)
        go_wp2
        go_region_held3 (fun w' => (w'.cell? ⟨g, o + k * 14, none⟩ = some (.int .i64 x.kind) ∧ w'.cell? ⟨g, o + k * 14 + 1, none⟩ = some (.int .u32 (x.tup.src.toNat : Nat)) ∧ w'.cell? ⟨g, o + k * 14 + 2, none⟩ = some (.int .u32 (x.tup.dst.toNat : Nat)) ∧ w'.cell? ⟨g, o + k * 14 + 3, none⟩ = some (.int .i64 x.tup.proto) ∧ w'.cell? ⟨g, o + k * 14 + 4, none⟩ = some (.int .i64 x.tup.sport) ∧ w'.cell? ⟨g, o + k * 14 + 5, none⟩ = some (.int .i64 x.tup.dport) ∧ w'.cell? ⟨g, o + k * 14 + 6, none⟩ = some (.int .i64 x.fb) ∧ w'.cell? ⟨g, o + k * 14 + 7, none⟩ = some (.int .i64 x.fg) ∧ w'.cell? ⟨g, o + k * 14 + 8, none⟩ = some (.int .i64 x.fs) ∧ w'.cell? ⟨g, o + k * 14 + 9, none⟩ = some (.int .i64 x.gen) ∧ w'.cell? ⟨g, o + k * 14 + 10, none⟩ = some (.slice B1v n1 d1) ∧ w'.cell? ⟨g, o + k * 14 + 11, none⟩ = some (.int .i64 x.back) ∧ w'.cell? ⟨g, o + k * 14 + 12, none⟩ = some (.int .i64 x.until_) ∧ w'.cell? ⟨g, o + k * 14 + 13, none⟩ = some (.int .i64 x.count)) ∧ (w'.cell? ⟨g', o' + k * 14, none⟩ = some (.int .i64 y.kind) ∧ w'.cell? ⟨g', o' + k * 14 + 1, none⟩ = some (.int .u32 (y.tup.src.toNat : Nat)) ∧ w'.cell? ⟨g', o' + k * 14 + 2, none⟩ = some (.int .u32 (y.tup.dst.toNat : Nat)) ∧ w'.cell? ⟨g', o' + k * 14 + 3, none⟩ = some (.int .i64 y.tup.proto) ∧ w'.cell? ⟨g', o' + k * 14 + 4, none⟩ = some (.int .i64 y.tup.sport) ∧ w'.cell? ⟨g', o' + k * 14 + 5, none⟩ = some (.int .i64 y.tup.dport) ∧ w'.cell? ⟨g', o' + k * 14 + 6, none⟩ = some (.int .i64 y.fb) ∧ w'.cell? ⟨g', o' + k * 14 + 7, none⟩ = some (.int .i64 y.fg) ∧ w'.cell? ⟨g', o' + k * 14 + 8, none⟩ = some (.int .i64 y.fs) ∧ w'.cell? ⟨g', o' + k * 14 + 9, none⟩ = some (.int .i64 y.gen) ∧ w'.cell? ⟨g', o' + k * 14 + 10, none⟩ = some (.slice B2v n2 d2) ∧ w'.cell? ⟨g', o' + k * 14 + 11, none⟩ = some (.int .i64 y.back) ∧ w'.cell? ⟨g', o' + k * 14 + 12, none⟩ = some (.int .i64 y.until_) ∧ w'.cell? ⟨g', o' + k * 14 + 13, none⟩ = some (.int .i64 y.count)))
          (first | exact ⟨⟨c0, c1, c2, c3, c4, c5, c6, c7, c8, c9, c10, c11, c12, c13⟩, ⟨e0, e1, e2, e3, e4, e5, e6, e7, e8, e9, e10, e11, e12, e13⟩⟩ | exact ⟨⟨(K6.out.cell (p := ⟨g, o + k * 14, none⟩) hg (by simp)).trans c0, (K6.out.cell (p := ⟨g, o + k * 14 + 1, none⟩) hg (by simp)).trans c1, (K6.out.cell (p := ⟨g, o + k * 14 + 2, none⟩) hg (by simp)).trans c2, (K6.out.cell (p := ⟨g, o + k * 14 + 3, none⟩) hg (by simp)).trans c3, (K6.out.cell (p := ⟨g, o + k * 14 + 4, none⟩) hg (by simp)).trans c4, (K6.out.cell (p := ⟨g, o + k * 14 + 5, none⟩) hg (by simp)).trans c5, (K6.out.cell (p := ⟨g, o + k * 14 + 6, none⟩) hg (by simp)).trans c6, (K6.out.cell (p := ⟨g, o + k * 14 + 7, none⟩) hg (by simp)).trans c7, (K6.out.cell (p := ⟨g, o + k * 14 + 8, none⟩) hg (by simp)).trans c8, (K6.out.cell (p := ⟨g, o + k * 14 + 9, none⟩) hg (by simp)).trans c9, (K6.out.cell (p := ⟨g, o + k * 14 + 10, none⟩) hg (by simp)).trans c10, (K6.out.cell (p := ⟨g, o + k * 14 + 11, none⟩) hg (by simp)).trans c11, (K6.out.cell (p := ⟨g, o + k * 14 + 12, none⟩) hg (by simp)).trans c12, (K6.out.cell (p := ⟨g, o + k * 14 + 13, none⟩) hg (by simp)).trans c13⟩, ⟨(K6.out.cell (p := ⟨g', o' + k * 14, none⟩) hg' (by simp)).trans e0, (K6.out.cell (p := ⟨g', o' + k * 14 + 1, none⟩) hg' (by simp)).trans e1, (K6.out.cell (p := ⟨g', o' + k * 14 + 2, none⟩) hg' (by simp)).trans e2, (K6.out.cell (p := ⟨g', o' + k * 14 + 3, none⟩) hg' (by simp)).trans e3, (K6.out.cell (p := ⟨g', o' + k * 14 + 4, none⟩) hg' (by simp)).trans e4, (K6.out.cell (p := ⟨g', o' + k * 14 + 5, none⟩) hg' (by simp)).trans e5, (K6.out.cell (p := ⟨g', o' + k * 14 + 6, none⟩) hg' (by simp)).trans e6, (K6.out.cell (p := ⟨g', o' + k * 14 + 7, none⟩) hg' (by simp)).trans e7, (K6.out.cell (p := ⟨g', o' + k * 14 + 8, none⟩) hg' (by simp)).trans e8, (K6.out.cell (p := ⟨g', o' + k * 14 + 9, none⟩) hg' (by simp)).trans e9, (K6.out.cell (p := ⟨g', o' + k * 14 + 10, none⟩) hg' (by simp)).trans e10, (K6.out.cell (p := ⟨g', o' + k * 14 + 11, none⟩) hg' (by simp)).trans e11, (K6.out.cell (p := ⟨g', o' + k * 14 + 12, none⟩) hg' (by simp)).trans e12, (K6.out.cell (p := ⟨g', o' + k * 14 + 13, none⟩) hg' (by simp)).trans e13⟩⟩)
          ((go_at_call 85
            refine (rSameR_any _ x y (⟨BkArr.kept HB1.out KD.out (by simp), fun q hq => Nat.lt_of_lt_of_le (HG1.out q hq) KWD.out.size, by omega⟩ : SmallB _ G1 B1v n1 d1 x.backs) (⟨BkArr.kept HB2.out KD.out (by simp), fun q hq => Nat.lt_of_lt_of_le (HG2.out q hq) KWD.out.size, by omega⟩ : SmallB _ G2 B2v n2 d2 y.backs)).mono ?_
            rintro e w6 ⟨rfl, hk6⟩
            rw [HE.out]
            have K6 := Lib.hid (((Kept.refl [] wr).drew).trans hk6 (by simp))
            clear hk6))
        all_goals
          go_wp2
          go_roundg (m - (k + 1))
          case measure => omega
          case rel => exact ⟨k + 1, by omega, rfl, by go_num, hres.out, Hkw.out.trans K6.out (by simp)⟩
    · obtain rfl : m = k := by omega
      have i1 : ¬ (m : Int) < (m : Int) := by omega
      have hres := Lib.hid (show sameRs l l' = true by
        rw [Hs.out, List.drop_of_length_le (by rw [A1.out]; exact Nat.le_refl _), List.drop_of_length_le (by rw [B1.out]; exact Nat.le_refl _)]; rfl)
      go_wp2
      go_ret
      exact ⟨ret_bool hres.out.symm, Hkw.out⟩
end
section
open Go.RowKit
theorem flip_app (f : FrameD) (h : putE f = 0) (rest : List UInt8) {i : Nat} (hi : i < (putF f).length) {y : UInt8} (hy : y ≠ (putF f)[i]) : (takeF ((putF f).set i y ++ rest)).2.2 ≠ 0 := by
  intro h0
  have h1 := takeF_ok h0
  have hb := takeF_ok (c := putF f) (by have := take_put f [] h; rw [List.append_nil] at this; rw [this])
  have hlen := putF_len h
  have hn : num (((putF f).drop 6).take 2) = f.body.length := by
    have := hb.2.2.2.2.1
    have h2 : (takeF (putF f)).2.1 = 16 + f.body.length := by have := take_put f [] h; rw [List.append_nil] at this; rw [this]
    omega
  generalize putF f = bs at *
  have hls : (bs.set i y).length = bs.length := List.length_set
  have p8 : (bs.set i y ++ rest).take 8 = (bs.set i y).take 8 := List.take_append_of_le_length (by omega)
  have d8 : ((bs.set i y ++ rest).drop 8).take 4 = ((bs.set i y).drop 8).take 4 := by
    rw [List.drop_append_of_le_length (by omega), List.take_append_of_le_length (by rw [List.length_drop]; omega)]
  have d6 : ((bs.set i y ++ rest).drop 6).take 2 = ((bs.set i y).drop 6).take 2 := by
    rw [List.drop_append_of_le_length (by omega), List.take_append_of_le_length (by rw [List.length_drop]; omega)]
  have d12 : ((bs.set i y ++ rest).drop 12).take 4 = ((bs.set i y).drop 12).take 4 := by
    rw [List.drop_append_of_le_length (by omega), List.take_append_of_le_length (by rw [List.length_drop]; omega)]
  have d16 : (bs.set i y ++ rest).drop 16 = (bs.set i y).drop 16 ++ rest := List.drop_append_of_le_length (by omega)
  have hget : ∀ (n : Nat) (hn : n ≤ i) (hl : i - n < (bs.drop n).length), (bs.drop n)[i - n] = bs[i] := fun n hn hl => by
    rw [List.getElem_drop]; congr 1; omega
  have hx := h1.2.1
  rw [p8, d8] at hx
  by_cases c1 : i < 8
  · have e1 : (bs.set i y).take 8 = (bs.take 8).set i y := List.take_set ..
    have e2 : (bs.set i y).drop 8 = bs.drop 8 := by rw [List.drop_set, if_pos c1]
    rw [e1, e2, hb.2.1] at hx
    have hl8 : i < (bs.take 8).length := by rw [List.length_take]; omega
    exact crc_flip hl8 (by rw [List.getElem_take]; exact hy) hx.symm
  have e1 : (bs.set i y).take 8 = bs.take 8 := by rw [List.take_set]; exact List.set_eq_of_length_le (by rw [List.length_take]; omega)
  have e6 : ((bs.set i y).drop 6).take 2 = (bs.drop 6).take 2 := by
    rw [List.drop_set, if_neg (by omega), List.take_set]
    exact List.set_eq_of_length_le (by rw [List.length_take]; omega)
  by_cases c2 : i < 12
  · have e2 : ((bs.set i y).drop 8).take 4 = ((bs.drop 8).take 4).set (i - 8) y := by rw [List.drop_set, if_neg (by omega), List.take_set]
    rw [e1, ← hb.2.1, e2] at hx
    have hl : i - 8 < ((bs.drop 8).take 4).length := by simp; omega
    exact set_ne hl (by rw [List.getElem_take, hget 8 (by omega)]; exact hy) (num_inj hx (by simp))
  have hx := h1.2.2.2.1
  have hlb : (bs.drop 16).length = f.body.length := by rw [List.length_drop]; omega
  rw [d12, d6, d16, e6, hn] at hx
  have t1 : (bs.drop 16).take f.body.length = bs.drop 16 := List.take_of_length_le (by omega)
  have hy2 := hb.2.2.2.1
  rw [hn, t1] at hy2
  by_cases c3 : i < 16
  · have e2 : ((bs.set i y).drop 12).take 4 = ((bs.drop 12).take 4).set (i - 12) y := by rw [List.drop_set, if_neg (by omega), List.take_set]
    have e3 : (bs.set i y).drop 16 = bs.drop 16 := by rw [List.drop_set, if_pos c3]
    rw [e3, List.take_left' hlb, ← hy2, e2] at hx
    have hl : i - 12 < ((bs.drop 12).take 4).length := by simp; omega
    exact set_ne hl (by rw [List.getElem_take, hget 12 (by omega)]; exact hy) (num_inj hx (by simp))
  · have e2 : ((bs.set i y).drop 12).take 4 = (bs.drop 12).take 4 := by
      rw [List.drop_set, if_neg (by omega), List.take_set]
      exact List.set_eq_of_length_le (by rw [List.length_take]; omega)
    have e3 : (bs.set i y).drop 16 = (bs.drop 16).set (i - 16) y := by rw [List.drop_set, if_neg c3]
    rw [e3, List.take_left' (by rw [List.length_set]; exact hlb), e2, hy2] at hx
    have hl : i - 16 < (bs.drop 16).length := by omega
    exact crc_flip hl (by rw [hget 16 (by omega)]; exact hy) hx.symm
theorem scan_err {bs : List UInt8} (hne : bs ≠ []) (h : (takeF bs).2.2 ≠ 0) : (scanF bs).2.2 ≠ 0 := by
  unfold scanF
  cases bs with
  | nil => exact absurd rfl hne
  | cons b bs =>
    rw [List.length_cons]
    unfold scanN
    rw [if_neg hne, if_pos h]
    exact h
theorem scan_one (f : FrameD) (h : putE f = 0) (rest : List UInt8) : (scanF (putF f ++ rest)).2.2 = (scanF rest).2.2 ∧ (scanF (putF f ++ rest)).1 = f :: (scanF rest).1 := by
  have := scan_join [f] rest (by simpa using h)
  rw [joinF_cons, joinF_nil, List.append_nil] at this
  rw [this]
  exact ⟨rfl, rfl⟩
theorem scan_flip : ∀ (l : List FrameD), (∀ f ∈ l, putE f = 0) → ∀ {i : Nat} (hi : i < (joinF l).length) {y : UInt8}, y ≠ (joinF l)[i] → (scanF ((joinF l).set i y)).2.2 ≠ 0
  | [], _, i, hi, y, _ => by simp [joinF_nil] at hi
  | f :: l, h, i, hi, y, hy => by
    have hf := h f (by simp)
    have hl := putF_len hf
    simp only [joinF_cons] at hi hy ⊢
    by_cases c : i < (putF f).length
    · rw [List.set_append_left _ _ c]
      rw [List.getElem_append_left c] at hy
      refine scan_err (fun h0 => ?_) (flip_app f hf _ c hy)
      have := congrArg List.length h0
      rw [List.length_append, List.length_set, hl, List.length_nil] at this
      omega
    · rw [List.set_append_right _ _ (by omega)]
      rw [List.getElem_append_right (by omega)] at hy
      rw [(scan_one f hf _).1]
      exact scan_flip l (fun g hg => h g (by simp [hg])) _ hy
theorem scan_more (l : List FrameD) (h : ∀ f ∈ l, putE f = 0) (x : UInt8) : (scanF (joinF l ++ [x])).2.2 ≠ 0 := by
  rw [scan_join l [x] h]
  refine scan_err (by simp) ?_
  unfold takeF
  rw [if_pos (by simp)]
  decide
theorem scan_all (l : List FrameD) (h : ∀ f ∈ l, putE f = 0) : (scanF (joinF l)).1 = l ∧ (scanF (joinF l)).2.2 = 0 := by
  have := scan_join l [] h
  rw [List.append_nil] at this
  rw [this]
  exact ⟨by simp [scanF, scanN], by simp [scanF, scanN]⟩
theorem scan_pre : ∀ (l : List FrameD), (∀ f ∈ l, putE f = 0) → ∀ {at_ : Nat}, at_ ≤ (joinF l).length → ∃ k ≤ l.length, (scanF ((joinF l).take at_)).1 = l.take k ∧ ((scanF ((joinF l).take at_)).2.2 = 0 → at_ = (joinF (l.take k)).length)
  | [], _, a, ha => ⟨0, Nat.le_refl _, by simp [joinF_nil, scanF, scanN], fun _ => by simpa [joinF_nil] using ha⟩
  | f :: l, h, a, ha => by
    have hf := h f (by simp)
    have hl := putF_len hf
    rw [joinF_cons] at ha ⊢
    by_cases c : a < (putF f).length
    · refine ⟨0, Nat.zero_le _, ?_, fun h0 => ?_⟩
      · rw [List.take_append_of_le_length (by omega), List.take_zero]
        by_cases h0 : a = 0
        · rw [h0, List.take_zero]; simp [scanF, scanN]
        · have hs := take_short f a hf c
          have hne : (putF f).take a ≠ [] := by
            intro e
            have := congrArg List.length e
            rw [List.length_take, List.length_nil] at this
            omega
          unfold scanF
          generalize (putF f).take a = bs at *
          cases bs with
          | nil => exact absurd rfl hne
          | cons b bs =>
            rw [List.length_cons]
            unfold scanN
            rw [if_neg hne, hs, if_pos (by decide)]
      · rw [List.take_append_of_le_length (by omega)] at h0
        by_cases h1 : a = 0
        · rw [h1, List.take_zero, joinF_nil]; rfl
        · have hs := take_short f a hf c
          have hne : (putF f).take a ≠ [] := by
            intro e
            have := congrArg List.length e
            rw [List.length_take, List.length_nil] at this
            omega
          exact absurd h0 (scan_err hne (by rw [hs]; decide))
    · obtain ⟨b, rfl⟩ : ∃ b, a = (putF f).length + b := ⟨a - (putF f).length, by omega⟩
      rw [List.take_length_add_append]
      rw [List.length_append] at ha
      obtain ⟨k, hk, h1, h2⟩ := scan_pre l (fun g hg => h g (by simp [hg])) (at_ := b) (by omega)
      refine ⟨k + 1, by simpa using hk, ?_, fun h0 => ?_⟩
      · rw [(scan_one f hf _).2, h1, List.take_succ_cons]
      · rw [(scan_one f hf _).1] at h0
        rw [List.take_succ_cons, joinF_cons, List.length_append, ← h2 h0]
def nilV : VwD := ⟨0, [], [], []⟩
def runV (V : VwD) : List RecD → VwD × Int
  | [] => (V, 0)
  | r :: l => if errV V r = 0 then runV (applyV V r) l else (V, errV V r)
theorem nil_view : IsView newS nilV := ⟨rfl, rfl, List.Perm.refl _, List.Pairwise.nil, List.Perm.refl _, List.Pairwise.nil⟩
theorem run_view : ∀ (l : List RecD) {S : StD} {V : VwD}, OkS S → IsView S V → (runV V l).2 = (runS S l).2 ∧ IsView (runS S l).1 (runV V l).1
  | [], S, V, ok, h => ⟨rfl, h⟩
  | r :: l, S, V, ok, h => by
    obtain ⟨h1, h2⟩ := view_apply ok h r
    unfold runV runS
    rw [h1]
    by_cases he : errS S r = 0
    · rw [if_pos he, if_pos he]
      exact run_view l (ok.apply r) h2
    · rw [if_neg he, if_neg he]
      exact ⟨rfl, h⟩
theorem sameV_iff {V W : VwD} : sameV V W = true ↔ V = W := by
  obtain ⟨a, b, c, d⟩ := V
  obtain ⟨a', b', c', d'⟩ := W
  unfold sameV
  simp [sameBs_iff]
def goodV (V : VwD) : Prop := runV nilV (recsV V) = (V, 0)
theorem good_of {V : VwD} {S : StD} {e : Int} (h : runS newS (recsV V) = (S, e)) : goodV V ↔ e = 0 ∧ ∃ V', IsView S V' ∧ sameV V' V = true := by
  obtain ⟨h1, h2⟩ := run_view (recsV V) OkS.new nil_view
  have ok : OkS S := by have := run_ok OkS.new (recsV V); rw [h] at this; exact this
  rw [h] at h1 h2
  unfold goodV
  constructor
  · intro hg
    rw [hg] at h1 h2
    exact ⟨h1.symm, V, h2, sameV_self V⟩
  · rintro ⟨rfl, V', h3, h4⟩
    obtain rfl := sameV_iff.1 h4
    have := h2.one ok h3
    exact Prod.ext this h1
theorem good_view {S : StD} (ok : OkS S) (okf : OkF S) {V : VwD} (h : IsView S V) : goodV V := by
  obtain ⟨T, h1, h2, h3⟩ := anew ok okf h
  exact (good_of h1).2 ⟨rfl, V, h3, sameV_self V⟩
def rEn (n : Int) : RecD := { (default : RecD) with kind := 6, count := n }
def sentR (V : VwD) (now : Int) : List RecD := (recsV V ++ [rDr (65535, now)]) ++ [rEn ((recsV V).length + 1 : Nat)]
def strm (l : List RecD) : List UInt8 := joinF (l.map fun r => encF r 3)
def wholeB (l : List RecD) : Bool := decide (2 ≤ l.length) && (decide ((l.getD (l.length - 1) default).kind = 6) && (decide ((l.getD (l.length - 1) default).count = (l.length - 1 : Nat)) && (l.take (l.length - 1)).all fun r => !decide (r.kind = 6)))
def recvM (bs : List UInt8) : VwD × Int × Int :=
  if (scanF bs).2.2 ≠ 0 then (nilV, 0, 11)
  else if (scanF bs).1.any (fun f => decide (decE f ≠ 0)) = true then (nilV, 0, 3)
  else if wholeB ((scanF bs).1.map decR) = false then (nilV, 0, 11)
  else if (scanF bs).1.any (fun f => decide (f.ver ≠ 3)) = true then (nilV, 0, 10)
  else if (((scanF bs).1.map decR).getD (((scanF bs).1.map decR).length - 2) default).kind ≠ 4 ∨ (((scanF bs).1.map decR).getD (((scanF bs).1.map decR).length - 2) default).back ≠ 65535 ∨ (runV nilV (((scanF bs).1.map decR).take (((scanF bs).1.map decR).length - 2))).2 ≠ 0 ∨
      sameRs (recsV (runV nilV (((scanF bs).1.map decR).take (((scanF bs).1.map decR).length - 2))).1) (((scanF bs).1.map decR).take (((scanF bs).1.map decR).length - 2)) = false then (nilV, 0, 3)
  else ((runV nilV (((scanF bs).1.map decR).take (((scanF bs).1.map decR).length - 2))).1, (((scanF bs).1.map decR).getD (((scanF bs).1.map decR).length - 2) default).until_, 0)
structure Snt (r : RecD) : Prop where
  may : mayR r = true
  plain : plainR r = r
  put : putE (encF r 3) = 0
theorem body_small {r : RecD} (h : mayR r = true) : (bodyR r 3).length ≤ 4096 := by
  unfold bodyR
  repeat' split
  all_goals simp only [List.length_append, tupB_len, u16B_len, u32B_len, u8B_len, i64B_len, List.length_nil]
  all_goals try omega
  rename_i h1 h2 h3
  have hl : r.backs.length ≤ 16 := by
    unfold mayR at h
    rw [if_neg h1, if_neg h2, if_pos h3] at h
    simp at h
    exact h.2.1
  have hb : ∀ l : List BackD, (l.flatMap (backB 3)).length = 7 * l.length := by
    intro l
    induction l with
    | nil => rfl
    | cons b l ih =>
      rw [List.flatMap_cons, List.length_append, ih, List.length_cons]
      have : (backB 3 b).length = 7 := by simp [backB, u16B_len, u8B_len, beK_len]
      omega
  rw [hb]
  omega
theorem Snt.mk' {r : RecD} (h : mayR r = true) (hp : plainR r = r) : Snt r := by
  refine ⟨h, hp, ?_⟩
  have hk := may_kind h
  have hb := body_small h
  rw [encF_yes (by decide) h]
  unfold putE
  rw [if_neg (by simp only; omega), if_neg (by simp only; omega)]
theorem snt_recs {S : StD} (ok : OkS S) (okf : OkF S) {V : VwD} (h : IsView S V) : ∀ r ∈ recsV V, Snt r ∧ r.kind ≠ 6 := by
  intro r hr
  unfold recsV at hr
  rcases List.mem_cons.1 hr with rfl | hr
  · refine ⟨Snt.mk' ?_ (by simp [plainR, rGv]), by simp [rGv]⟩
    have h1 := ok.rg
    have h2 := mayBs_iff.1 ok.mb
    rw [← h.gen] at h1
    rw [← h.backs] at h2
    have h3 : V.backs.all mayB = true := by
      rw [List.all_eq_true]
      intro b hb
      obtain ⟨i, hi⟩ := List.getElem?_of_mem hb
      exact (h2.2 i b hi).1
    simp [mayR, rGv, h1, h2.1, h3]
  · rcases List.mem_append.1 hr with hr | hr
    · obtain ⟨d, hd, rfl⟩ := List.mem_map.1 hr
      have h1 := ok.rd d (h.dp.mem_iff.1 hd)
      refine ⟨Snt.mk' ?_ (by simp [plainR, rDr]), by simp [rDr]⟩
      simp [mayR, rDr, inB, h1.1.1, h1.1.2, h1.2]
    · obtain ⟨f, hf, rfl⟩ := List.mem_map.1 hr
      obtain ⟨p, hp, rfl⟩ := List.mem_map.1 (h.fp.mem_iff.1 hf)
      exact ⟨Snt.mk' (okf p hp) (by simp [plainR, rFl]), by simp [rFl]⟩
theorem snt_all {S : StD} (ok : OkS S) (okf : OkF S) {V : VwD} (h : IsView S V) {now : Int} (ht : timeB now = true) : ∀ r ∈ sentR V now, Snt r := by
  intro r hr
  unfold sentR at hr
  rcases List.mem_append.1 hr with hr | hr
  · rcases List.mem_append.1 hr with hr | hr
    · exact (snt_recs ok okf h r hr).1
    · obtain rfl : r = _ := by simpa using hr
      exact Snt.mk' (by simp [mayR, rDr, inB, ht]) (by simp [plainR, rDr])
  · obtain rfl : r = _ := by simpa using hr
    have hl := recs_len h
    unfold lenS at hl
    have h1 := ok.ld
    have h2 := ok.lf
    refine Snt.mk' ?_ (by simp [plainR, rEn])
    have : inB (((recsV V).length + 1 : Nat) : Int) 1000000 = true := by unfold inB; simp; omega
    simp only [mayR, rEn]
    simpa using this
theorem strm_scan {l : List RecD} (h : ∀ r ∈ l, Snt r) : (∀ f ∈ l.map (fun r => encF r 3), putE f = 0) ∧ (l.map fun r => encF r 3).map decR = l ∧ ((l.map fun r => encF r 3).any fun f => decide (decE f ≠ 0)) = false ∧ ((l.map fun r => encF r 3).any fun f => decide (f.ver ≠ 3)) = false := by
  refine ⟨fun f hf => ?_, ?_, ?_, ?_⟩
  · obtain ⟨r, hr, rfl⟩ := List.mem_map.1 hf
    exact (h r hr).put
  · rw [List.map_map]
    have : l.map (decR ∘ fun r => encF r 3) = l.map id := List.map_congr_left fun r hr => by
      show decR (encF r 3) = r
      rw [(back_enc (by decide) (h r hr).may).2, in3, (h r hr).plain]
    rw [this, List.map_id]
  · rw [List.any_eq_false]
    intro f hf
    obtain ⟨r, hr, rfl⟩ := List.mem_map.1 hf
    rw [(back_enc (by decide) (h r hr).may).1]
    simp
  · rw [List.any_eq_false]
    intro f hf
    obtain ⟨r, hr, rfl⟩ := List.mem_map.1 hf
    rw [encF_yes (by decide) (h r hr).may]
    simp
theorem sent_len (V : VwD) (now : Int) : (sentR V now).length = (recsV V).length + 2 := by simp [sentR]
theorem sent_last (V : VwD) (now : Int) : (sentR V now).getD ((recsV V).length + 1) default = rEn ((recsV V).length + 1 : Nat) := by
  unfold sentR
  rw [List.getD_eq_getElem?_getD, List.getElem?_append_right (by simp)]
  simp
theorem sent_clock (V : VwD) (now : Int) : (sentR V now).getD (recsV V).length default = rDr (65535, now) := by
  unfold sentR
  rw [List.getD_eq_getElem?_getD, List.getElem?_append_left (by simp), List.getElem?_append_right (by simp)]
  simp
theorem sent_take1 (V : VwD) (now : Int) : (sentR V now).take ((recsV V).length + 1) = recsV V ++ [rDr (65535, now)] := by
  unfold sentR
  exact List.take_left' (by simp)
theorem sent_take (V : VwD) (now : Int) : (sentR V now).take (recsV V).length = recsV V := by
  unfold sentR
  rw [List.append_assoc]
  exact List.take_left' rfl
theorem sameRs_id : ∀ l : List RecD, sameRs l l = true
  | [] => rfl
  | r :: l => by unfold sameRs; rw [sameR_iff.2 rfl, sameRs_id l]; rfl
theorem send_recv {S : StD} (ok : OkS S) (okf : OkF S) {V : VwD} (h : IsView S V) {now : Int} (ht : timeB now = true) : recvM (strm (sentR V now)) = (V, now, 0) := by
  obtain ⟨h1, h2, h3, h4⟩ := strm_scan (snt_all ok okf h ht)
  obtain ⟨s1, s2⟩ := scan_all _ h1
  have hg := good_view ok okf h
  unfold goodV at hg
  unfold recvM strm
  rw [s1, s2, if_neg (by simp), h3, if_neg (by simp), h2, h4]
  have hlen := sent_len V now
  have hw : wholeB (sentR V now) = true := by
    unfold wholeB
    rw [hlen, show (recsV V).length + 2 - 1 = (recsV V).length + 1 by omega, sent_last, sent_take1]
    have ha : (recsV V ++ [rDr (65535, now)]).all (fun r => !decide (r.kind = 6)) = true := by
      rw [List.all_eq_true]
      intro r hr
      rcases List.mem_append.1 hr with hr | hr
      · simpa using (snt_recs ok okf h r hr).2
      · obtain rfl : r = _ := by simpa using hr
        simp [rDr]
    rw [ha]
    simp [rEn]
  rw [hw, if_neg (by simp), if_neg (by simp), hlen, show (recsV V).length + 2 - 2 = (recsV V).length by omega, sent_clock, sent_take, hg]
  rw [if_neg (by simp only; rw [sameRs_id]; simp [rDr])]
  rfl
theorem recv_scan {bs : List UInt8} (h : (scanF bs).2.2 ≠ 0) : recvM bs = (nilV, 0, 11) := by unfold recvM; rw [if_pos h]
theorem recv_flip {S : StD} (ok : OkS S) (okf : OkF S) {V : VwD} (h : IsView S V) {now : Int} (ht : timeB now = true) {i : Nat} (hi : i < (strm (sentR V now)).length) {y : UInt8} (hy : y ≠ (strm (sentR V now))[i]) :
    recvM ((strm (sentR V now)).set i y) = (nilV, 0, 11) := recv_scan (scan_flip _ (strm_scan (snt_all ok okf h ht)).1 hi hy)
theorem recv_more {S : StD} (ok : OkS S) (okf : OkF S) {V : VwD} (h : IsView S V) {now : Int} (ht : timeB now = true) (x : UInt8) :
    recvM (strm (sentR V now) ++ [x]) = (nilV, 0, 11) := recv_scan (scan_more _ (strm_scan (snt_all ok okf h ht)).1 x)
theorem whole_not {l : List RecD} (h : ∀ r ∈ l, r.kind ≠ 6) : wholeB l = false := by
  unfold wholeB
  by_cases h2 : 2 ≤ l.length
  · have hm : l.getD (l.length - 1) default ∈ l := by
      rw [List.getD_eq_getElem?_getD, List.getElem?_eq_getElem (by omega), Option.getD_some]
      exact List.getElem_mem _
    rw [decide_eq_false (h _ hm), Bool.false_and, Bool.and_false]
  · simp [h2]
theorem recv_cut {S : StD} (ok : OkS S) (okf : OkF S) {V : VwD} (h : IsView S V) {now : Int} (ht : timeB now = true) {a : Nat} (ha : a < (strm (sentR V now)).length) : recvM ((strm (sentR V now)).take a) = (nilV, 0, 11) := by
  have hsn := snt_all ok okf h ht
  obtain ⟨h1, h2, h3, h4⟩ := strm_scan hsn
  obtain ⟨k, hk, s1, s2⟩ := scan_pre _ h1 (at_ := a) (Nat.le_of_lt ha)
  by_cases he : (scanF ((strm (sentR V now)).take a)).2.2 = 0
  · have hk2 : k < (sentR V now).length := by
      rw [List.length_map] at hk
      rcases Nat.lt_or_ge k (sentR V now).length with h5 | h5
      · exact h5
      · have := s2 he
        rw [List.take_of_length_le (by rw [List.length_map]; exact h5)] at this
        unfold strm at ha
        omega
    unfold recvM
    rw [if_neg (by rw [he]; simp)]
    have s1 : (scanF ((strm (sentR V now)).take a)).1 = ((sentR V now).take k).map fun r => encF r 3 := by rw [List.map_take]; exact s1
    rw [s1]
    have hsn' : ∀ r ∈ (sentR V now).take k, Snt r := fun r hr => hsn r (List.mem_of_mem_take hr)
    obtain ⟨_, g2, g3, g4⟩ := strm_scan hsn'
    rw [g3, if_neg (by simp), g2, whole_not, if_pos rfl]
    intro r hr
    have hr2 : r ∈ (sentR V now).take ((recsV V).length + 1) := by
      rw [sent_len] at hk2
      obtain ⟨i, hi⟩ := List.getElem?_of_mem hr
      rw [List.getElem?_take] at hi
      split at hi
      · refine List.mem_of_getElem? (i := i) ?_
        rw [List.getElem?_take, if_pos (by omega)]
        exact hi
      · cases hi
    rw [sent_take1] at hr2
    rcases List.mem_append.1 hr2 with hr | hr
    · exact (snt_recs ok okf h r hr).2
    · obtain rfl : r = _ := by simpa using hr
      simp [rDr]
  · exact recv_scan he
theorem recv_two {S : StD} (ok : OkS S) (okf : OkF S) {V : VwD} (h : IsView S V) {now : Int} (ht : timeB now = true) : recvM (strm (sentR V now) ++ strm (sentR V now)) = (nilV, 0, 11) := by
  have hsn := snt_all ok okf h ht
  have hsn2 : ∀ r ∈ sentR V now ++ sentR V now, Snt r := fun r hr => by
    rcases List.mem_append.1 hr with hr | hr
    · exact hsn r hr
    · exact hsn r hr
  have e : strm (sentR V now) ++ strm (sentR V now) = strm (sentR V now ++ sentR V now) := by unfold strm; rw [List.map_append, joinF_app]
  obtain ⟨h1, h2, h3, h4⟩ := strm_scan hsn2
  obtain ⟨s1, s2⟩ := scan_all _ h1
  rw [e]
  unfold recvM strm
  rw [s1, s2, if_neg (by simp), h3, if_neg (by simp), h2, if_pos]
  unfold wholeB
  have hlen := sent_len V now
  have ha : ((sentR V now ++ sentR V now).take ((sentR V now ++ sentR V now).length - 1)).all (fun r => !decide (r.kind = 6)) = false := by
    rw [List.all_eq_false]
    refine ⟨rEn ((recsV V).length + 1 : Nat), ?_, by simp [rEn]⟩
    rw [List.take_append, List.mem_append]
    left
    rw [List.take_of_length_le (by rw [List.length_append]; omega)]
    unfold sentR
    exact List.mem_append.2 (.inr (by simp))
  rw [ha]
  simp
def madeV (l : List RecD) : VwD := ((l.take 60).filter fun r => decide (r.backs.length ≤ 40)).foldl applyV nilV
theorem fold_ok : ∀ (l : List RecD) {S : StD} {V : VwD}, OkS S → OkF S → IsView S V → ∃ T, OkS T ∧ OkF T ∧ IsView T (l.foldl applyV V)
  | [], S, V, ok, okf, h => ⟨S, ok, okf, h⟩
  | r :: l, S, V, ok, okf, h => fold_ok l (ok.apply r) (okf.apply r) (view_apply ok h r).2
theorem made_ok (l : List RecD) : ∃ T, OkS T ∧ OkF T ∧ IsView T (madeV l) := fold_ok _ OkS.new OkF.new nil_view
end
end Go.Proofs.YtkacghjglicjiaaGreat
