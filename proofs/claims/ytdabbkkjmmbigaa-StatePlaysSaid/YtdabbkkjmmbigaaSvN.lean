
/-
  The document's SameRecords.
-/
import Derived.Test.YtdabbkkjmmbigaaSvI
import Derived.Test.YtdabbkkjmmbigaaRecE
namespace Go.Proofs.Ytdabbkkjmmbigaa
open Go.RowKit Go.ChangeShapes Go.WideShapes Go.ChangeAt Go.Deep Go.MapKept
set_option linter.unusedVariables false

def sameRs : List RecD → List RecD → Bool
  | [], [] => true
  | a :: l, b :: l' => sameR a b && sameRs l l'
  | _, _ => false
theorem sameRs_drop {l l' : List RecD} {k : Nat} (h : k < l.length) (h' : k < l'.length) : sameRs (l.drop k) (l'.drop k) = (sameR l[k] l'[k] && sameRs (l.drop (k + 1)) (l'.drop (k + 1))) := by
  rw [← List.getElem_cons_drop (h := h), ← List.getElem_cons_drop (h := h')]; rfl
set_option maxRecDepth 100000 in
set_option maxHeartbeats 3200000 in
/-- of rows of one length -/
theorem rSameRs_any (w : World) {G1 G2 : List Nat} {A B : Option Addr} {m c d : Nat} (l l' : List RecD) (h1 : RecArr w G1 (.slice A m c) l) (h2 : RecArr w G2 (.slice B m d) l') (hG1 : ∀ k ∈ G1, k < w.heap.size) (hG2 : ∀ k ∈ G2, k < w.heap.size) (hb1 : ∀ r ∈ l, r.backs.length ≤ 1000) (hb2 : ∀ r ∈ l', r.backs.length ≤ 1000) :
    Calls Try.prog 21 #[.slice A m c, .slice B m d] w fun e w' => e = .returned (.bool (sameRs l l')) ∧ Kept [] w w' := by
  obtain ⟨a1, a2, a3, a4⟩ := h1.len
  obtain ⟨b1, b2, b3, b4⟩ := h2.len
  have H1 := Lib.hid h1
  have H2 := Lib.hid h2
  have A1 := Lib.hid a1
  have B1 := Lib.hid b1
  have HG1 := Lib.hid hG1
  have HG2 := Lib.hid hG2
  have HL1 := Lib.hid hb1
  have HL2 := Lib.hid hb2
  clear h1 h2 a1 b1 a4 b4 hG1 hG2 hb1 hb2
  unfold maxLen at a3 b3
  go_enter Try.func21, Try.ntmps21
  go_wp2
  go_loopg [13] m (fun gg i wr => ∃ k : Nat, k ≤ m ∧ gg = m - k ∧ i = .int .i64 k ∧ sameRs l l' = sameRs (l.drop k) (l'.drop k) ∧ Kept [] w wr)
  case atStart => exact ⟨0, by omega, by omega, rfl, by simp, Kept.refl _ _⟩
  case round =>
    obtain ⟨k, hk, rfl, rfl, hs, hkw⟩ := hrel
    have Hs := Lib.hid hs
    have Hkw := Lib.hid hkw
    clear hs hkw
    by_cases hlt : k < m
    · have hkl : k < l.length := by rw [A1.out]; exact hlt
      have hkl' : k < l'.length := by rw [B1.out]; exact hlt
      obtain ⟨g, o, B1v, n1, d1, rfl, hg, hgG, hat, hbk⟩ := (RecArr.kept H1.out Hkw.out (by simp)).at (k := k) hkl
      obtain ⟨g', o', B2v, n2, d2, rfl, hg', hgG', hat', hbk'⟩ := (RecArr.kept H2.out Hkw.out (by simp)).at (k := k) hkl'
      have HB1 := Lib.hid hbk
      have HB2 := Lib.hid hbk'
      have hn1 : n1 ≤ 1000 := by rw [← hbk.len.1]; exact HL1.out _ (List.getElem_mem hkl)
      have hn2 : n2 ≤ 1000 := by rw [← hbk'.len.1]; exact HL2.out _ (List.getElem_mem hkl')
      have Hd := Lib.hid (sameRs_drop (l := l) (l' := l') hkl hkl')
      clear hbk hbk'
      generalize l[k]'hkl = x at *
      generalize l'[k]'hkl' = y at *
      obtain ⟨c0, c1, c2, c3, c4, c5, c6, c7, c8, c9, c10, c11, c12, c13⟩ := hat
      obtain ⟨e0, e1, e2, e3, e4, e5, e6, e7, e8, e9, e10, e11, e12, e13⟩ := hat'
      have i0 : (0 : Int) ≤ (k : Int) := by omega
      have i1 : (k : Int) < (m : Int) := by omega
      have iw : IntKind.i64.wrap ((k : Int) + 1) = (k : Int) + 1 := IntWalk.i64_in _ (by omega)
      have KD := Lib.hid ((Kept.refl [] wr).drew)
      have KWD := Lib.hid (Hkw.out.drew)
      obtain ⟨b, hb⟩ : ∃ b, sameR x y = b := ⟨_, rfl⟩
      have HE := Lib.hid hb
      rw [hb] at Hd
      clear hb hkl hkl'
      cases b
      · have hres := Lib.hid (show sameRs l l' = false by rw [Hs.out, Hd.out]; rfl)
        go_wp2
        go_region_held3 (fun w' => (w'.cell? ⟨g, o + k * 14, none⟩ = some (.int .i64 x.kind) ∧ w'.cell? ⟨g, o + k * 14 + 1, none⟩ = some (.int .u32 (x.tup.src.toNat : Nat)) ∧ w'.cell? ⟨g, o + k * 14 + 2, none⟩ = some (.int .u32 (x.tup.dst.toNat : Nat)) ∧ w'.cell? ⟨g, o + k * 14 + 3, none⟩ = some (.int .i64 x.tup.proto) ∧ w'.cell? ⟨g, o + k * 14 + 4, none⟩ = some (.int .i64 x.tup.sport) ∧ w'.cell? ⟨g, o + k * 14 + 5, none⟩ = some (.int .i64 x.tup.dport) ∧ w'.cell? ⟨g, o + k * 14 + 6, none⟩ = some (.int .i64 x.fb) ∧ w'.cell? ⟨g, o + k * 14 + 7, none⟩ = some (.int .i64 x.fg) ∧ w'.cell? ⟨g, o + k * 14 + 8, none⟩ = some (.int .i64 x.fs) ∧ w'.cell? ⟨g, o + k * 14 + 9, none⟩ = some (.int .i64 x.gen) ∧ w'.cell? ⟨g, o + k * 14 + 10, none⟩ = some (.slice B1v n1 d1) ∧ w'.cell? ⟨g, o + k * 14 + 11, none⟩ = some (.int .i64 x.back) ∧ w'.cell? ⟨g, o + k * 14 + 12, none⟩ = some (.int .i64 x.until_) ∧ w'.cell? ⟨g, o + k * 14 + 13, none⟩ = some (.int .i64 x.count)) ∧ (w'.cell? ⟨g', o' + k * 14, none⟩ = some (.int .i64 y.kind) ∧ w'.cell? ⟨g', o' + k * 14 + 1, none⟩ = some (.int .u32 (y.tup.src.toNat : Nat)) ∧ w'.cell? ⟨g', o' + k * 14 + 2, none⟩ = some (.int .u32 (y.tup.dst.toNat : Nat)) ∧ w'.cell? ⟨g', o' + k * 14 + 3, none⟩ = some (.int .i64 y.tup.proto) ∧ w'.cell? ⟨g', o' + k * 14 + 4, none⟩ = some (.int .i64 y.tup.sport) ∧ w'.cell? ⟨g', o' + k * 14 + 5, none⟩ = some (.int .i64 y.tup.dport) ∧ w'.cell? ⟨g', o' + k * 14 + 6, none⟩ = some (.int .i64 y.fb) ∧ w'.cell? ⟨g', o' + k * 14 + 7, none⟩ = some (.int .i64 y.fg) ∧ w'.cell? ⟨g', o' + k * 14 + 8, none⟩ = some (.int .i64 y.fs) ∧ w'.cell? ⟨g', o' + k * 14 + 9, none⟩ = some (.int .i64 y.gen) ∧ w'.cell? ⟨g', o' + k * 14 + 10, none⟩ = some (.slice B2v n2 d2) ∧ w'.cell? ⟨g', o' + k * 14 + 11, none⟩ = some (.int .i64 y.back) ∧ w'.cell? ⟨g', o' + k * 14 + 12, none⟩ = some (.int .i64 y.until_) ∧ w'.cell? ⟨g', o' + k * 14 + 13, none⟩ = some (.int .i64 y.count)))
          (first | exact ⟨⟨c0, c1, c2, c3, c4, c5, c6, c7, c8, c9, c10, c11, c12, c13⟩, ⟨e0, e1, e2, e3, e4, e5, e6, e7, e8, e9, e10, e11, e12, e13⟩⟩ | exact ⟨⟨(K6.out.cell (p := ⟨g, o + k * 14, none⟩) hg (by simp)).trans c0, (K6.out.cell (p := ⟨g, o + k * 14 + 1, none⟩) hg (by simp)).trans c1, (K6.out.cell (p := ⟨g, o + k * 14 + 2, none⟩) hg (by simp)).trans c2, (K6.out.cell (p := ⟨g, o + k * 14 + 3, none⟩) hg (by simp)).trans c3, (K6.out.cell (p := ⟨g, o + k * 14 + 4, none⟩) hg (by simp)).trans c4, (K6.out.cell (p := ⟨g, o + k * 14 + 5, none⟩) hg (by simp)).trans c5, (K6.out.cell (p := ⟨g, o + k * 14 + 6, none⟩) hg (by simp)).trans c6, (K6.out.cell (p := ⟨g, o + k * 14 + 7, none⟩) hg (by simp)).trans c7, (K6.out.cell (p := ⟨g, o + k * 14 + 8, none⟩) hg (by simp)).trans c8, (K6.out.cell (p := ⟨g, o + k * 14 + 9, none⟩) hg (by simp)).trans c9, (K6.out.cell (p := ⟨g, o + k * 14 + 10, none⟩) hg (by simp)).trans c10, (K6.out.cell (p := ⟨g, o + k * 14 + 11, none⟩) hg (by simp)).trans c11, (K6.out.cell (p := ⟨g, o + k * 14 + 12, none⟩) hg (by simp)).trans c12, (K6.out.cell (p := ⟨g, o + k * 14 + 13, none⟩) hg (by simp)).trans c13⟩, ⟨(K6.out.cell (p := ⟨g', o' + k * 14, none⟩) hg' (by simp)).trans e0, (K6.out.cell (p := ⟨g', o' + k * 14 + 1, none⟩) hg' (by simp)).trans e1, (K6.out.cell (p := ⟨g', o' + k * 14 + 2, none⟩) hg' (by simp)).trans e2, (K6.out.cell (p := ⟨g', o' + k * 14 + 3, none⟩) hg' (by simp)).trans e3, (K6.out.cell (p := ⟨g', o' + k * 14 + 4, none⟩) hg' (by simp)).trans e4, (K6.out.cell (p := ⟨g', o' + k * 14 + 5, none⟩) hg' (by simp)).trans e5, (K6.out.cell (p := ⟨g', o' + k * 14 + 6, none⟩) hg' (by simp)).trans e6, (K6.out.cell (p := ⟨g', o' + k * 14 + 7, none⟩) hg' (by simp)).trans e7, (K6.out.cell (p := ⟨g', o' + k * 14 + 8, none⟩) hg' (by simp)).trans e8, (K6.out.cell (p := ⟨g', o' + k * 14 + 9, none⟩) hg' (by simp)).trans e9, (K6.out.cell (p := ⟨g', o' + k * 14 + 10, none⟩) hg' (by simp)).trans e10, (K6.out.cell (p := ⟨g', o' + k * 14 + 11, none⟩) hg' (by simp)).trans e11, (K6.out.cell (p := ⟨g', o' + k * 14 + 12, none⟩) hg' (by simp)).trans e12, (K6.out.cell (p := ⟨g', o' + k * 14 + 13, none⟩) hg' (by simp)).trans e13⟩⟩)
          ((go_at_call 51
            refine (rSameR_any _ x y (⟨BkArr.kept HB1.out KD.out (by simp), fun q hq => Nat.lt_of_lt_of_le (HG1.out q hq) KWD.out.size, by omega⟩ : SmallB _ G1 B1v n1 d1 x.backs) (⟨BkArr.kept HB2.out KD.out (by simp), fun q hq => Nat.lt_of_lt_of_le (HG2.out q hq) KWD.out.size, by omega⟩ : SmallB _ G2 B2v n2 d2 y.backs)).mono ?_
            rintro e w6 ⟨rfl, hk6⟩
            rw [HE.out]
            have K6 := Lib.hid (((Kept.refl [] wr).drew).trans hk6 (by simp))
            clear hk6))
        all_goals
          go_wp2
          go_ret
          exact ⟨ret_bool hres.out.symm, Hkw.out.trans K6.out (by simp)⟩
      · have hres := Lib.hid (show sameRs l l' = sameRs (l.drop (k + 1)) (l'.drop (k + 1)) by rw [Hs.out, Hd.out]; rfl)
        go_wp2
        go_region_held3 (fun w' => (w'.cell? ⟨g, o + k * 14, none⟩ = some (.int .i64 x.kind) ∧ w'.cell? ⟨g, o + k * 14 + 1, none⟩ = some (.int .u32 (x.tup.src.toNat : Nat)) ∧ w'.cell? ⟨g, o + k * 14 + 2, none⟩ = some (.int .u32 (x.tup.dst.toNat : Nat)) ∧ w'.cell? ⟨g, o + k * 14 + 3, none⟩ = some (.int .i64 x.tup.proto) ∧ w'.cell? ⟨g, o + k * 14 + 4, none⟩ = some (.int .i64 x.tup.sport) ∧ w'.cell? ⟨g, o + k * 14 + 5, none⟩ = some (.int .i64 x.tup.dport) ∧ w'.cell? ⟨g, o + k * 14 + 6, none⟩ = some (.int .i64 x.fb) ∧ w'.cell? ⟨g, o + k * 14 + 7, none⟩ = some (.int .i64 x.fg) ∧ w'.cell? ⟨g, o + k * 14 + 8, none⟩ = some (.int .i64 x.fs) ∧ w'.cell? ⟨g, o + k * 14 + 9, none⟩ = some (.int .i64 x.gen) ∧ w'.cell? ⟨g, o + k * 14 + 10, none⟩ = some (.slice B1v n1 d1) ∧ w'.cell? ⟨g, o + k * 14 + 11, none⟩ = some (.int .i64 x.back) ∧ w'.cell? ⟨g, o + k * 14 + 12, none⟩ = some (.int .i64 x.until_) ∧ w'.cell? ⟨g, o + k * 14 + 13, none⟩ = some (.int .i64 x.count)) ∧ (w'.cell? ⟨g', o' + k * 14, none⟩ = some (.int .i64 y.kind) ∧ w'.cell? ⟨g', o' + k * 14 + 1, none⟩ = some (.int .u32 (y.tup.src.toNat : Nat)) ∧ w'.cell? ⟨g', o' + k * 14 + 2, none⟩ = some (.int .u32 (y.tup.dst.toNat : Nat)) ∧ w'.cell? ⟨g', o' + k * 14 + 3, none⟩ = some (.int .i64 y.tup.proto) ∧ w'.cell? ⟨g', o' + k * 14 + 4, none⟩ = some (.int .i64 y.tup.sport) ∧ w'.cell? ⟨g', o' + k * 14 + 5, none⟩ = some (.int .i64 y.tup.dport) ∧ w'.cell? ⟨g', o' + k * 14 + 6, none⟩ = some (.int .i64 y.fb) ∧ w'.cell? ⟨g', o' + k * 14 + 7, none⟩ = some (.int .i64 y.fg) ∧ w'.cell? ⟨g', o' + k * 14 + 8, none⟩ = some (.int .i64 y.fs) ∧ w'.cell? ⟨g', o' + k * 14 + 9, none⟩ = some (.int .i64 y.gen) ∧ w'.cell? ⟨g', o' + k * 14 + 10, none⟩ = some (.slice B2v n2 d2) ∧ w'.cell? ⟨g', o' + k * 14 + 11, none⟩ = some (.int .i64 y.back) ∧ w'.cell? ⟨g', o' + k * 14 + 12, none⟩ = some (.int .i64 y.until_) ∧ w'.cell? ⟨g', o' + k * 14 + 13, none⟩ = some (.int .i64 y.count)))
          (first | exact ⟨⟨c0, c1, c2, c3, c4, c5, c6, c7, c8, c9, c10, c11, c12, c13⟩, ⟨e0, e1, e2, e3, e4, e5, e6, e7, e8, e9, e10, e11, e12, e13⟩⟩ | exact ⟨⟨(K6.out.cell (p := ⟨g, o + k * 14, none⟩) hg (by simp)).trans c0, (K6.out.cell (p := ⟨g, o + k * 14 + 1, none⟩) hg (by simp)).trans c1, (K6.out.cell (p := ⟨g, o + k * 14 + 2, none⟩) hg (by simp)).trans c2, (K6.out.cell (p := ⟨g, o + k * 14 + 3, none⟩) hg (by simp)).trans c3, (K6.out.cell (p := ⟨g, o + k * 14 + 4, none⟩) hg (by simp)).trans c4, (K6.out.cell (p := ⟨g, o + k * 14 + 5, none⟩) hg (by simp)).trans c5, (K6.out.cell (p := ⟨g, o + k * 14 + 6, none⟩) hg (by simp)).trans c6, (K6.out.cell (p := ⟨g, o + k * 14 + 7, none⟩) hg (by simp)).trans c7, (K6.out.cell (p := ⟨g, o + k * 14 + 8, none⟩) hg (by simp)).trans c8, (K6.out.cell (p := ⟨g, o + k * 14 + 9, none⟩) hg (by simp)).trans c9, (K6.out.cell (p := ⟨g, o + k * 14 + 10, none⟩) hg (by simp)).trans c10, (K6.out.cell (p := ⟨g, o + k * 14 + 11, none⟩) hg (by simp)).trans c11, (K6.out.cell (p := ⟨g, o + k * 14 + 12, none⟩) hg (by simp)).trans c12, (K6.out.cell (p := ⟨g, o + k * 14 + 13, none⟩) hg (by simp)).trans c13⟩, ⟨(K6.out.cell (p := ⟨g', o' + k * 14, none⟩) hg' (by simp)).trans e0, (K6.out.cell (p := ⟨g', o' + k * 14 + 1, none⟩) hg' (by simp)).trans e1, (K6.out.cell (p := ⟨g', o' + k * 14 + 2, none⟩) hg' (by simp)).trans e2, (K6.out.cell (p := ⟨g', o' + k * 14 + 3, none⟩) hg' (by simp)).trans e3, (K6.out.cell (p := ⟨g', o' + k * 14 + 4, none⟩) hg' (by simp)).trans e4, (K6.out.cell (p := ⟨g', o' + k * 14 + 5, none⟩) hg' (by simp)).trans e5, (K6.out.cell (p := ⟨g', o' + k * 14 + 6, none⟩) hg' (by simp)).trans e6, (K6.out.cell (p := ⟨g', o' + k * 14 + 7, none⟩) hg' (by simp)).trans e7, (K6.out.cell (p := ⟨g', o' + k * 14 + 8, none⟩) hg' (by simp)).trans e8, (K6.out.cell (p := ⟨g', o' + k * 14 + 9, none⟩) hg' (by simp)).trans e9, (K6.out.cell (p := ⟨g', o' + k * 14 + 10, none⟩) hg' (by simp)).trans e10, (K6.out.cell (p := ⟨g', o' + k * 14 + 11, none⟩) hg' (by simp)).trans e11, (K6.out.cell (p := ⟨g', o' + k * 14 + 12, none⟩) hg' (by simp)).trans e12, (K6.out.cell (p := ⟨g', o' + k * 14 + 13, none⟩) hg' (by simp)).trans e13⟩⟩)
          ((go_at_call 51
            refine (rSameR_any _ x y (⟨BkArr.kept HB1.out KD.out (by simp), fun q hq => Nat.lt_of_lt_of_le (HG1.out q hq) KWD.out.size, by omega⟩ : SmallB _ G1 B1v n1 d1 x.backs) (⟨BkArr.kept HB2.out KD.out (by simp), fun q hq => Nat.lt_of_lt_of_le (HG2.out q hq) KWD.out.size, by omega⟩ : SmallB _ G2 B2v n2 d2 y.backs)).mono ?_
            rintro e w6 ⟨rfl, hk6⟩
            rw [HE.out]
            have K6 := Lib.hid (((Kept.refl [] wr).drew).trans hk6 (by simp))
            clear hk6))
        all_goals
          go_wp2
          go_roundg (m - (k + 1))
          case measure => omega
          case rel => exact ⟨k + 1, by omega, rfl, by go_num, hres.out, Hkw.out.trans K6.out (by simp)⟩
    · obtain rfl : m = k := by omega
      have i1 : ¬ (m : Int) < (m : Int) := by omega
      have hres := Lib.hid (show sameRs l l' = true by
        rw [Hs.out, List.drop_of_length_le (by rw [A1.out]; exact Nat.le_refl _), List.drop_of_length_le (by rw [B1.out]; exact Nat.le_refl _)]; rfl)
      go_wp2
      go_ret
      exact ⟨ret_bool hres.out.symm, Hkw.out⟩
end Go.Proofs.Ytdabbkkjmmbigaa
