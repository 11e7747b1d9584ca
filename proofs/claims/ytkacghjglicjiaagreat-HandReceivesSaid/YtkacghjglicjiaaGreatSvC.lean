/-
  The document's answer on flows: a flow put into a row.
-/
import Derived.Test.YtkacghjglicjiaaGreatSvB
namespace Go.Proofs.YtkacghjglicjiaaGreat
set_option linter.unusedVariables false
section
open Go.RowKit Go.ChangeShapes Go.WideShapes Go.ChangeAt Go.Deep Go.MapKept
set_option maxHeartbeats 6400000 in
theorem PutFlow_any (w : World) {G : List Nat} {A : Option Addr} {m c : Nat} (l : List FlD) (f : FlD) (h : FlArr w G (.slice A m c) l) (hG : ∀ k ∈ G, k < w.heap.size) (hm : m ≤ 1000) :
    Calls Tryz.prog 88 #[.slice A m c, .agg #[.int .u32 (f.tup.src.toNat : Nat), .int .u32 (f.tup.dst.toNat : Nat), .int .i64 f.tup.proto, .int .i64 f.tup.sport, .int .i64 f.tup.dport, .int .i64 f.back, .int .i64 f.gen, .int .i64 f.seen]] w fun e w' => ∃ A' m' c', e = .returned (.slice A' m' c') ∧ FlV w w' (.slice A' m' c') (putFl l f) := by
  obtain ⟨a1, a2, a3, a4⟩ := h.len
  have H := Lib.hid h
  have HG := Lib.hid hG
  have A1 := Lib.hid a1
  have A4 := Lib.hid a4
  have X0 := Lib.hid (Blk.new w 41 #[.int .u32 (f.tup.src.toNat : Nat), .int .u32 (f.tup.dst.toNat : Nat), .int .i64 f.tup.proto, .int .i64 f.tup.sport, .int .i64 f.tup.dport, .int .i64 f.back, .int .i64 f.gen, .int .i64 f.seen])
  have K0 := Lib.hid ((Kept.refl [] w).alloc (.cells #[.int .u32 (f.tup.src.toNat : Nat), .int .u32 (f.tup.dst.toNat : Nat), .int .i64 f.tup.proto, .int .i64 f.tup.sport, .int .i64 f.tup.dport, .int .i64 f.back, .int .i64 f.gen, .int .i64 f.seen] 41))
  clear h hG a1 a4
  unfold maxLen at a3
  go_enter Tryz.func88, Tryz.ntmps88
  go_wp2
  go_loopg [5] m (fun gg i wr => ∃ j : Nat, j ≤ m ∧ gg = m - j ∧ i = .int .i64 j ∧ (∀ x ∈ l.take j, lessT x.tup f.tup = true) ∧ Kept [] w wr ∧ Blk wr w.heap.size 41 #[.int .u32 (f.tup.src.toNat : Nat), .int .u32 (f.tup.dst.toNat : Nat), .int .i64 f.tup.proto, .int .i64 f.tup.sport, .int .i64 f.tup.dport, .int .i64 f.back, .int .i64 f.gen, .int .i64 f.seen])
  case atStart => exact ⟨0, by omega, by omega, rfl, by simp, K0.out, X0.out⟩
  case round =>
    obtain ⟨j, hj, rfl, rfl, hs, hkw, hbx⟩ := hrel
    have Hs := Lib.hid hs
    have Hkw := Lib.hid hkw
    have Bx := Lib.hid hbx
    clear hs hkw hbx
    by_cases hlt : j < m
    · have hkl : j < l.length := by rw [A1.out]; exact hlt
      obtain ⟨g, o, rfl, hg, hgG, c0, c1, c2, c3, c4, c5, c6, c7⟩ := (FlArr.kept H.out Hkw.out (by simp)).at (k := j) hkl
      have Htk := Lib.hid (show l.take (j + 1) = l.take j ++ [l[j]] by rw [List.take_add_one, List.getElem?_eq_getElem hkl]; rfl)
      have HPS := Lib.hid (fun h2 h3 => put_same (f := f) hkl Hs.out h2 h3)
      have HPO := Lib.hid (fun h2 h3 => put_other (f := f) hkl Hs.out h2 h3)
      generalize l[j]'hkl = x at *
      have hx0 := Bx.out.cell
      have i0 : (0 : Int) ≤ (j : Int) := by omega
      have i1 : (j : Int) < (m : Int) := by omega
      have i2 : (j : Int) ≤ (m : Int) := by omega
      have i3 : (j : Int) ≤ (c : Int) := by omega
      have iw : IntKind.i64.wrap ((j : Int) + 1) = (j : Int) + 1 := IntWalk.i64_in _ (by omega)
      obtain ⟨b, hb⟩ : ∃ b, lessT x.tup f.tup = b := ⟨_, rfl⟩
      have HB := Lib.hid hb
      cases b
      · clear hb
        go_wp2
        go_region_held3 (fun w' => w'.cell? ⟨g, o + j * 8, none⟩ = some (.int .u32 (x.tup.src.toNat : Nat)) ∧ w'.cell? ⟨g, o + j * 8 + 1, none⟩ = some (.int .u32 (x.tup.dst.toNat : Nat)) ∧ w'.cell? ⟨g, o + j * 8 + 2, none⟩ = some (.int .i64 x.tup.proto) ∧ w'.cell? ⟨g, o + j * 8 + 3, none⟩ = some (.int .i64 x.tup.sport) ∧ w'.cell? ⟨g, o + j * 8 + 4, none⟩ = some (.int .i64 x.tup.dport) ∧ ∀ q, w'.cell? ⟨w.heap.size, q, none⟩ = (#[.int .u32 (f.tup.src.toNat : Nat), .int .u32 (f.tup.dst.toNat : Nat), .int .i64 f.tup.proto, .int .i64 f.tup.sport, .int .i64 f.tup.dport, .int .i64 f.back, .int .i64 f.gen, .int .i64 f.seen] : Array Value)[q]?)
          (first | exact ⟨c0, c1, c2, c3, c4, hx0⟩ | exact ⟨(K5.out.cell (p := ⟨g, o + j * 8, none⟩) hg (by simp)).trans c0, (K5.out.cell (p := ⟨g, o + j * 8 + 1, none⟩) hg (by simp)).trans c1, (K5.out.cell (p := ⟨g, o + j * 8 + 2, none⟩) hg (by simp)).trans c2, (K5.out.cell (p := ⟨g, o + j * 8 + 3, none⟩) hg (by simp)).trans c3, (K5.out.cell (p := ⟨g, o + j * 8 + 4, none⟩) hg (by simp)).trans c4, (Bx.out.kept K5.out (by simp)).cell⟩)
          ((go_at_call 124
            refine (rLessT_any _ x.tup f.tup).mono ?_
            rintro e w5 ⟨rfl, hk5⟩
            rw [HB.out]
            have K5 := Lib.hid (((Kept.refl [] wr).drew).trans hk5 (by simp))
            clear hk5))
        all_goals
          go_wp2
          obtain ⟨M, hM⟩ : ∃ M, m - j = M := ⟨_, rfl⟩
          obtain ⟨C, hC⟩ : ∃ C, c - j = C := ⟨_, rfl⟩
          have hM1 : 1 ≤ M := by omega
          have hMC : M ≤ C := by omega
          have hC9 : C ≤ 2 ^ 63 - 1 := by omega
          have D5 := Lib.hid (by
            have h1 := arr_drop (k := j) (FlArr.kept (FlArr.kept H.out Hkw.out (by simp)) K5.out (by simp)) (by omega)
            rw [hM, hC] at h1
            exact h1 : FlArr w5 G (.slice (some ⟨g, o + j * 8, none⟩) M C) (l.drop j))
          have KW5 := Lib.hid (Hkw.out.trans K5.out (by simp))
          have BX5 := Lib.hid (Bx.out.kept K5.out (by simp))
          have TX5 := Lib.hid (arr_take (k := j) (FlArr.kept (FlArr.kept H.out Hkw.out (by simp)) K5.out (by simp)) (by omega))
          have HMj := Lib.hid hM
          simp only [hM, hC]
          have e0 := (K5.out.cell (p := ⟨g, o + j * 8, none⟩) hg (by simp)).trans c0
          have e1 := (K5.out.cell (p := ⟨g, o + j * 8 + 1, none⟩) hg (by simp)).trans c1
          have e2 := (K5.out.cell (p := ⟨g, o + j * 8 + 2, none⟩) hg (by simp)).trans c2
          have e3 := (K5.out.cell (p := ⟨g, o + j * 8 + 3, none⟩) hg (by simp)).trans c3
          have e4 := (K5.out.cell (p := ⟨g, o + j * 8 + 4, none⟩) hg (by simp)).trans c4
          have hbx5 := BX5.out.cell
          have j1 : 0 < M := by omega
          have hqt := eqT_run x.tup f.tup
          have hgt : Tryz.prog.eqGuardType Tryz.prog.depth 39 = false := by kernel_rfl
          clear hM hC c0 c1 c2 c3 c4 c5 c6 c7 i0 i1 iw hx0
          by_cases hts : sameT x.tup f.tup = true
          · have HT := Lib.hid (sameT_iff.1 hts)
            rw [hts] at hqt
            clear hts
            go_quiet (fail)
            by_cases hC1 : 1 = C
            · subst hC1
              have hM2 : M = 1 := by omega
              subst hM2
              go_wp2
              obtain ⟨wx, hwx⟩ : ∃ wx, w5.drewN nq = wx := ⟨_, rfl⟩
              have KX := Lib.hid (hwx ▸ KW5.out.drewN nq : Kept [] w wx)
              have TX := Lib.hid (hwx ▸ FlArr.kept TX5.out ((Kept.refl [] w5).drewN nq) (by simp) : FlArr wx G (.slice (some ⟨g, o, none⟩) j c) (l.take j))
              have RX := Lib.hid (by rw [List.drop_of_length_le (by have := A1.out; have := HMj.out; omega)]; exact arr_zero wx G 8 _ _ 0 (by unfold maxLen; omega) : FlArr wx G (.slice (some ⟨g, o + j * 8, none⟩) 0 0) (l.drop (j + 1)))
              have BX := Lib.hid (hwx ▸ BX5.out.kept ((Kept.refl [] w5).drewN nq) (by simp) : Blk wx w.heap.size 41 #[.int .u32 (f.tup.src.toNat : Nat), .int .u32 (f.tup.dst.toNat : Nat), .int .i64 f.tup.proto, .int .i64 f.tup.sport, .int .i64 f.tup.dport, .int .i64 f.back, .int .i64 f.gen, .int .i64 f.seen])
              simp only [hwx]
              clear hwx e0 e1 e2 e3 e4 hbx5 hqt hgt
              have KXD := Lib.hid (KX.out.drew)
              have KXA := Lib.hid ((KX.out.alloc (.cells #[.int .u32 (f.tup.src.toNat : Nat), .int .u32 (f.tup.dst.toNat : Nat), .int .i64 f.tup.proto, .int .i64 f.tup.sport, .int .i64 f.tup.dport, .int .i64 f.back, .int .i64 f.gen, .int .i64 f.seen] 41)).drew)
              have KA := Lib.hid (((Kept.refl [] wx).alloc (.cells #[.int .u32 (f.tup.src.toNat : Nat), .int .u32 (f.tup.dst.toNat : Nat), .int .i64 f.tup.proto, .int .i64 f.tup.sport, .int .i64 f.tup.dport, .int .i64 f.back, .int .i64 f.gen, .int .i64 f.seen] 41)).drew)
              have N1 := Lib.hid (LV.nil KXD.out : FlV w wx.drew (.slice none 0 0) [])
              have N2 := Lib.hid (LV.nil KXA.out : FlV w (wx.alloc (.cells #[.int .u32 (f.tup.src.toNat : Nat), .int .u32 (f.tup.dst.toNat : Nat), .int .i64 f.tup.proto, .int .i64 f.tup.sport, .int .i64 f.tup.dport, .int .i64 f.back, .int .i64 f.gen, .int .i64 f.seen] 41)).drew (.slice none 0 0) [])
              have T1 := Lib.hid (FlArr.kept TX.out ((Kept.refl [] wx).drew) (by simp))
              have T2 := Lib.hid (FlArr.kept TX.out KA.out (by simp))
              have BN := Lib.hid (show Blk (wx.alloc (.cells #[.int .u32 (f.tup.src.toNat : Nat), .int .u32 (f.tup.dst.toNat : Nat), .int .i64 f.tup.proto, .int .i64 f.tup.sport, .int .i64 f.tup.dport, .int .i64 f.back, .int .i64 f.gen, .int .i64 f.seen] 41)).drew wx.heap.size 41 #[.int .u32 (f.tup.src.toNat : Nat), .int .u32 (f.tup.dst.toNat : Nat), .int .i64 f.tup.proto, .int .i64 f.tup.sport, .int .i64 f.tup.dport, .int .i64 f.back, .int .i64 f.gen, .int .i64 f.seen] from by (repeat (first | (apply Blk.new'; simp; done) | apply Blk.alloc | apply Blk.drew)))
              have hbx := BX.out.cell
              have HL1 := Lib.hid (show ([] : List FlD).length + (l.take j).length ≤ 100000 by have := A1.out; simp; omega)
              have HL2 := Lib.hid (show ([] ++ l.take j : List FlD).length + [f].length ≤ 100000 by have := A1.out; simp; omega)
              have HL3 := Lib.hid (show ([] ++ l.take j ++ [f] : List FlD).length + (l.drop (j + 1) : List FlD).length ≤ 100000 by have := A1.out; simp; omega)
              go_region_law ((first
                | (refine step_lvs (W := w) (w0 := wx.drew) (sl := .slice none 0 0) (l := []) (l2 := l.take j) FlOk elem_flow (fun h => h) (by omega) rfl (.const (.slice none 0 0)) (.tmp 42) rfl (by first | (simp [Act.eval]; done) | (simp [Act.eval]; rfl) | rfl) N1.out (by first | (simp [Act.eval]; done) | (simp [Act.eval]; rfl) | rfl) T1.out HL1.out ?_
                   intro A9 m9 c9 w9 h9 k9 r9
                   go_must (have K9 := Lib.hid (Kept.trans (S := []) ((Kept.refl [] wx).drew) (show Kept [] wx.drew w9 from k9) (by simp)))
                   go_must (have hx9 := (BX.out.kept K9.out (by simp)).cell)
                   have H9 := Lib.hid h9
                   clear h9 k9 r9)
                | (refine step_lvs (W := w) (w0 := (wx.alloc (.cells #[.int .u32 (f.tup.src.toNat : Nat), .int .u32 (f.tup.dst.toNat : Nat), .int .i64 f.tup.proto, .int .i64 f.tup.sport, .int .i64 f.tup.dport, .int .i64 f.back, .int .i64 f.gen, .int .i64 f.seen] 41)).drew) (sl := .slice none 0 0) (l := []) (l2 := l.take j) FlOk elem_flow (fun h => h) (by omega) rfl (.const (.slice none 0 0)) (.tmp 42) rfl (by first | (simp [Act.eval]; done) | (simp [Act.eval]; rfl) | rfl) N2.out (by first | (simp [Act.eval]; done) | (simp [Act.eval]; rfl) | rfl) T2.out HL1.out ?_
                   intro A9 m9 c9 w9 h9 k9 r9
                   go_must (have K9 := Lib.hid (Kept.trans (S := []) KA.out (show Kept [] _ w9 from k9) (by simp)))
                   go_must (have BN9 := Lib.hid (BN.out.kept (S := []) (show Kept [] _ w9 from k9) (by simp)))
                   have H9 := Lib.hid h9
                   clear h9 k9 r9)
                | (refine step_lvs (W := w) (w0 := w9) (sl := .slice A9 m9 c9) (l := [] ++ l.take j) (l2 := [f]) FlOk elem_flow (fun h => h) (by omega) rfl (.tmp 43) (.tmp 45) rfl (by first | (simp [Act.eval]; done) | (simp [Act.eval]; rfl) | rfl) H9.out (by first | (simp [Act.eval]; done) | (simp [Act.eval]; rfl) | rfl) (arr_blk BN9.out rfl rfl) HL2.out ?_
                   intro A10 m10 c10 w10 h10 k10 r10
                   go_must (have RX10 := Lib.hid (FlArr.kept (FlArr.kept RX.out K9.out (by simp)) k10 (fun k hk hm => by have h1 := HG.out k hk; have h2 := (r10 k hm).1; omega)))
                   have H10 := Lib.hid h10
                   clear h10 k10 r10)
                | (refine step_lvs (W := w) (w0 := w9.alloc (.cells #[.int .u32 (f.tup.src.toNat : Nat), .int .u32 (f.tup.dst.toNat : Nat), .int .i64 f.tup.proto, .int .i64 f.tup.sport, .int .i64 f.tup.dport, .int .i64 f.back, .int .i64 f.gen, .int .i64 f.seen] 41)) (sl := .slice A9 m9 c9) (l := [] ++ l.take j) (l2 := [f]) FlOk elem_flow (fun h => h) (by omega) rfl (.tmp 43) (.tmp 45) rfl (by first | (simp [Act.eval]; done) | (simp [Act.eval]; rfl) | rfl) (LV.go FlOk H9.out ((Kept.refl [] w9).alloc _)) (by first | (simp [Act.eval]; done) | (simp [Act.eval]; rfl) | rfl) (arr_blk (Blk.new w9 41 #[.int .u32 (f.tup.src.toNat : Nat), .int .u32 (f.tup.dst.toNat : Nat), .int .i64 f.tup.proto, .int .i64 f.tup.sport, .int .i64 f.tup.dport, .int .i64 f.back, .int .i64 f.gen, .int .i64 f.seen]) rfl rfl) HL2.out ?_
                   intro A10 m10 c10 w10 h10 k10 r10
                   go_must (have RX10 := Lib.hid (FlArr.kept (FlArr.kept RX.out (K9.out.alloc _) (by simp)) k10 (fun k hk hm => by have h1 := HG.out k hk; have h2 := (r10 k hm).1; omega)))
                   have H10 := Lib.hid h10
                   clear h10 k10 r10)
                | (refine step_lvs (W := w) (w0 := w10) (sl := .slice A10 m10 c10) (l := [] ++ l.take j ++ [f]) (l2 := l.drop (j + 1)) FlOk elem_flow (fun h => h) (by omega) rfl (.tmp 46) (.tmp 47) rfl (by first | (simp [Act.eval]; done) | (simp [Act.eval]; rfl) | rfl) H10.out (by first | (simp [Act.eval]; done) | (simp [Act.eval]; rfl) | rfl) RX10.out HL3.out ?_
                   intro A11 m11 c11 w11 h11 k11 r11
                   have H11 := Lib.hid h11
                   clear h11 k11 r11)))
              all_goals
                go_wp2
                go_ret
                exact ⟨A11, m11, c11, rfl, by rw [HPS.out HB.out HT.out]; have := H11.out; rwa [List.nil_append] at this⟩
            · have j2 : (1 : Int) ≤ (M : Int) := by omega
              have j3 : (1 : Int) ≤ (C : Int) := by omega
              go_wp2
              obtain ⟨M1, hM1⟩ : ∃ M1, M - 1 = M1 := ⟨_, rfl⟩
              obtain ⟨C1, hC1⟩ : ∃ C1, C - 1 = C1 := ⟨_, rfl⟩
              have D6 := Lib.hid (show FlArr w5 G (.slice (some ⟨g, o + j * 8 + 8, none⟩) M1 C1) (l.drop (j + 1)) from by
                have h1 := arr_drop (k := 1) D5.out (by omega)
                rw [List.drop_drop, hM1, hC1, Nat.one_mul] at h1
                exact h1)
              simp only [hM1, hC1]
              clear hM1 hC1
              obtain ⟨wx, hwx⟩ : ∃ wx, w5.drewN nq = wx := ⟨_, rfl⟩
              have KX := Lib.hid (hwx ▸ KW5.out.drewN nq : Kept [] w wx)
              have TX := Lib.hid (hwx ▸ FlArr.kept TX5.out ((Kept.refl [] w5).drewN nq) (by simp) : FlArr wx G (.slice (some ⟨g, o, none⟩) j c) (l.take j))
              have RX := Lib.hid (hwx ▸ FlArr.kept D6.out ((Kept.refl [] w5).drewN nq) (by simp) : FlArr wx G (.slice (some ⟨g, o + j * 8 + 8, none⟩) M1 C1) (l.drop (j + 1)))
              have BX := Lib.hid (hwx ▸ BX5.out.kept ((Kept.refl [] w5).drewN nq) (by simp) : Blk wx w.heap.size 41 #[.int .u32 (f.tup.src.toNat : Nat), .int .u32 (f.tup.dst.toNat : Nat), .int .i64 f.tup.proto, .int .i64 f.tup.sport, .int .i64 f.tup.dport, .int .i64 f.back, .int .i64 f.gen, .int .i64 f.seen])
              simp only [hwx]
              clear hwx e0 e1 e2 e3 e4 hbx5 hqt hgt
              have KXD := Lib.hid (KX.out.drew)
              have KXA := Lib.hid ((KX.out.alloc (.cells #[.int .u32 (f.tup.src.toNat : Nat), .int .u32 (f.tup.dst.toNat : Nat), .int .i64 f.tup.proto, .int .i64 f.tup.sport, .int .i64 f.tup.dport, .int .i64 f.back, .int .i64 f.gen, .int .i64 f.seen] 41)).drew)
              have KA := Lib.hid (((Kept.refl [] wx).alloc (.cells #[.int .u32 (f.tup.src.toNat : Nat), .int .u32 (f.tup.dst.toNat : Nat), .int .i64 f.tup.proto, .int .i64 f.tup.sport, .int .i64 f.tup.dport, .int .i64 f.back, .int .i64 f.gen, .int .i64 f.seen] 41)).drew)
              have N1 := Lib.hid (LV.nil KXD.out : FlV w wx.drew (.slice none 0 0) [])
              have N2 := Lib.hid (LV.nil KXA.out : FlV w (wx.alloc (.cells #[.int .u32 (f.tup.src.toNat : Nat), .int .u32 (f.tup.dst.toNat : Nat), .int .i64 f.tup.proto, .int .i64 f.tup.sport, .int .i64 f.tup.dport, .int .i64 f.back, .int .i64 f.gen, .int .i64 f.seen] 41)).drew (.slice none 0 0) [])
              have T1 := Lib.hid (FlArr.kept TX.out ((Kept.refl [] wx).drew) (by simp))
              have T2 := Lib.hid (FlArr.kept TX.out KA.out (by simp))
              have BN := Lib.hid (show Blk (wx.alloc (.cells #[.int .u32 (f.tup.src.toNat : Nat), .int .u32 (f.tup.dst.toNat : Nat), .int .i64 f.tup.proto, .int .i64 f.tup.sport, .int .i64 f.tup.dport, .int .i64 f.back, .int .i64 f.gen, .int .i64 f.seen] 41)).drew wx.heap.size 41 #[.int .u32 (f.tup.src.toNat : Nat), .int .u32 (f.tup.dst.toNat : Nat), .int .i64 f.tup.proto, .int .i64 f.tup.sport, .int .i64 f.tup.dport, .int .i64 f.back, .int .i64 f.gen, .int .i64 f.seen] from by (repeat (first | (apply Blk.new'; simp; done) | apply Blk.alloc | apply Blk.drew)))
              have hbx := BX.out.cell
              have HL1 := Lib.hid (show ([] : List FlD).length + (l.take j).length ≤ 100000 by have := A1.out; simp; omega)
              have HL2 := Lib.hid (show ([] ++ l.take j : List FlD).length + [f].length ≤ 100000 by have := A1.out; simp; omega)
              have HL3 := Lib.hid (show ([] ++ l.take j ++ [f] : List FlD).length + (l.drop (j + 1) : List FlD).length ≤ 100000 by have := A1.out; simp; omega)
              go_region_law ((first
                | (refine step_lvs (W := w) (w0 := wx.drew) (sl := .slice none 0 0) (l := []) (l2 := l.take j) FlOk elem_flow (fun h => h) (by omega) rfl (.const (.slice none 0 0)) (.tmp 42) rfl (by first | (simp [Act.eval]; done) | (simp [Act.eval]; rfl) | rfl) N1.out (by first | (simp [Act.eval]; done) | (simp [Act.eval]; rfl) | rfl) T1.out HL1.out ?_
                   intro A9 m9 c9 w9 h9 k9 r9
                   go_must (have K9 := Lib.hid (Kept.trans (S := []) ((Kept.refl [] wx).drew) (show Kept [] wx.drew w9 from k9) (by simp)))
                   go_must (have hx9 := (BX.out.kept K9.out (by simp)).cell)
                   have H9 := Lib.hid h9
                   clear h9 k9 r9)
                | (refine step_lvs (W := w) (w0 := (wx.alloc (.cells #[.int .u32 (f.tup.src.toNat : Nat), .int .u32 (f.tup.dst.toNat : Nat), .int .i64 f.tup.proto, .int .i64 f.tup.sport, .int .i64 f.tup.dport, .int .i64 f.back, .int .i64 f.gen, .int .i64 f.seen] 41)).drew) (sl := .slice none 0 0) (l := []) (l2 := l.take j) FlOk elem_flow (fun h => h) (by omega) rfl (.const (.slice none 0 0)) (.tmp 42) rfl (by first | (simp [Act.eval]; done) | (simp [Act.eval]; rfl) | rfl) N2.out (by first | (simp [Act.eval]; done) | (simp [Act.eval]; rfl) | rfl) T2.out HL1.out ?_
                   intro A9 m9 c9 w9 h9 k9 r9
                   go_must (have K9 := Lib.hid (Kept.trans (S := []) KA.out (show Kept [] _ w9 from k9) (by simp)))
                   go_must (have BN9 := Lib.hid (BN.out.kept (S := []) (show Kept [] _ w9 from k9) (by simp)))
                   have H9 := Lib.hid h9
                   clear h9 k9 r9)
                | (refine step_lvs (W := w) (w0 := w9) (sl := .slice A9 m9 c9) (l := [] ++ l.take j) (l2 := [f]) FlOk elem_flow (fun h => h) (by omega) rfl (.tmp 43) (.tmp 45) rfl (by first | (simp [Act.eval]; done) | (simp [Act.eval]; rfl) | rfl) H9.out (by first | (simp [Act.eval]; done) | (simp [Act.eval]; rfl) | rfl) (arr_blk BN9.out rfl rfl) HL2.out ?_
                   intro A10 m10 c10 w10 h10 k10 r10
                   go_must (have RX10 := Lib.hid (FlArr.kept (FlArr.kept RX.out K9.out (by simp)) k10 (fun k hk hm => by have h1 := HG.out k hk; have h2 := (r10 k hm).1; omega)))
                   have H10 := Lib.hid h10
                   clear h10 k10 r10)
                | (refine step_lvs (W := w) (w0 := w9.alloc (.cells #[.int .u32 (f.tup.src.toNat : Nat), .int .u32 (f.tup.dst.toNat : Nat), .int .i64 f.tup.proto, .int .i64 f.tup.sport, .int .i64 f.tup.dport, .int .i64 f.back, .int .i64 f.gen, .int .i64 f.seen] 41)) (sl := .slice A9 m9 c9) (l := [] ++ l.take j) (l2 := [f]) FlOk elem_flow (fun h => h) (by omega) rfl (.tmp 43) (.tmp 45) rfl (by first | (simp [Act.eval]; done) | (simp [Act.eval]; rfl) | rfl) (LV.go FlOk H9.out ((Kept.refl [] w9).alloc _)) (by first | (simp [Act.eval]; done) | (simp [Act.eval]; rfl) | rfl) (arr_blk (Blk.new w9 41 #[.int .u32 (f.tup.src.toNat : Nat), .int .u32 (f.tup.dst.toNat : Nat), .int .i64 f.tup.proto, .int .i64 f.tup.sport, .int .i64 f.tup.dport, .int .i64 f.back, .int .i64 f.gen, .int .i64 f.seen]) rfl rfl) HL2.out ?_
                   intro A10 m10 c10 w10 h10 k10 r10
                   go_must (have RX10 := Lib.hid (FlArr.kept (FlArr.kept RX.out (K9.out.alloc _) (by simp)) k10 (fun k hk hm => by have h1 := HG.out k hk; have h2 := (r10 k hm).1; omega)))
                   have H10 := Lib.hid h10
                   clear h10 k10 r10)
                | (refine step_lvs (W := w) (w0 := w10) (sl := .slice A10 m10 c10) (l := [] ++ l.take j ++ [f]) (l2 := l.drop (j + 1)) FlOk elem_flow (fun h => h) (by omega) rfl (.tmp 46) (.tmp 47) rfl (by first | (simp [Act.eval]; done) | (simp [Act.eval]; rfl) | rfl) H10.out (by first | (simp [Act.eval]; done) | (simp [Act.eval]; rfl) | rfl) RX10.out HL3.out ?_
                   intro A11 m11 c11 w11 h11 k11 r11
                   have H11 := Lib.hid h11
                   clear h11 k11 r11)))
              all_goals
                go_wp2
                go_ret
                exact ⟨A11, m11, c11, rfl, by rw [HPS.out HB.out HT.out]; have := H11.out; rwa [List.nil_append] at this⟩
          · have HT := Lib.hid (fun e => hts (sameT_iff.2 e))
            have hts' : sameT x.tup f.tup = false := by simpa using hts
            rw [hts'] at hqt
            clear hts hts'
            go_quiet (fail)
            go_wp2
            obtain ⟨wx, hwx⟩ : ∃ wx, w5.drewN nq = wx := ⟨_, rfl⟩
            have KX := Lib.hid (hwx ▸ KW5.out.drewN nq : Kept [] w wx)
            have TX := Lib.hid (hwx ▸ FlArr.kept TX5.out ((Kept.refl [] w5).drewN nq) (by simp) : FlArr wx G (.slice (some ⟨g, o, none⟩) j c) (l.take j))
            have RX := Lib.hid (hwx ▸ FlArr.kept D5.out ((Kept.refl [] w5).drewN nq) (by simp) : FlArr wx G (.slice (some ⟨g, o + j * 8, none⟩) M C) (l.drop j))
            have BX := Lib.hid (hwx ▸ BX5.out.kept ((Kept.refl [] w5).drewN nq) (by simp) : Blk wx w.heap.size 41 #[.int .u32 (f.tup.src.toNat : Nat), .int .u32 (f.tup.dst.toNat : Nat), .int .i64 f.tup.proto, .int .i64 f.tup.sport, .int .i64 f.tup.dport, .int .i64 f.back, .int .i64 f.gen, .int .i64 f.seen])
            simp only [hwx]
            clear hwx e0 e1 e2 e3 e4 hbx5 hqt hgt j1
            have KXD := Lib.hid (KX.out.drew)
            have KXA := Lib.hid ((KX.out.alloc (.cells #[.int .u32 (f.tup.src.toNat : Nat), .int .u32 (f.tup.dst.toNat : Nat), .int .i64 f.tup.proto, .int .i64 f.tup.sport, .int .i64 f.tup.dport, .int .i64 f.back, .int .i64 f.gen, .int .i64 f.seen] 41)).drew)
            have KA := Lib.hid (((Kept.refl [] wx).alloc (.cells #[.int .u32 (f.tup.src.toNat : Nat), .int .u32 (f.tup.dst.toNat : Nat), .int .i64 f.tup.proto, .int .i64 f.tup.sport, .int .i64 f.tup.dport, .int .i64 f.back, .int .i64 f.gen, .int .i64 f.seen] 41)).drew)
            have N1 := Lib.hid (LV.nil KXD.out : FlV w wx.drew (.slice none 0 0) [])
            have N2 := Lib.hid (LV.nil KXA.out : FlV w (wx.alloc (.cells #[.int .u32 (f.tup.src.toNat : Nat), .int .u32 (f.tup.dst.toNat : Nat), .int .i64 f.tup.proto, .int .i64 f.tup.sport, .int .i64 f.tup.dport, .int .i64 f.back, .int .i64 f.gen, .int .i64 f.seen] 41)).drew (.slice none 0 0) [])
            have T1 := Lib.hid (FlArr.kept TX.out ((Kept.refl [] wx).drew) (by simp))
            have T2 := Lib.hid (FlArr.kept TX.out KA.out (by simp))
            have BN := Lib.hid (show Blk (wx.alloc (.cells #[.int .u32 (f.tup.src.toNat : Nat), .int .u32 (f.tup.dst.toNat : Nat), .int .i64 f.tup.proto, .int .i64 f.tup.sport, .int .i64 f.tup.dport, .int .i64 f.back, .int .i64 f.gen, .int .i64 f.seen] 41)).drew wx.heap.size 41 #[.int .u32 (f.tup.src.toNat : Nat), .int .u32 (f.tup.dst.toNat : Nat), .int .i64 f.tup.proto, .int .i64 f.tup.sport, .int .i64 f.tup.dport, .int .i64 f.back, .int .i64 f.gen, .int .i64 f.seen] from by (repeat (first | (apply Blk.new'; simp; done) | apply Blk.alloc | apply Blk.drew)))
            have hbx := BX.out.cell
            have HL1 := Lib.hid (show ([] : List FlD).length + (l.take j).length ≤ 100000 by have := A1.out; simp; omega)
            have HL2 := Lib.hid (show ([] ++ l.take j : List FlD).length + [f].length ≤ 100000 by have := A1.out; simp; omega)
            have HL3 := Lib.hid (show ([] ++ l.take j ++ [f] : List FlD).length + (l.drop j : List FlD).length ≤ 100000 by have := A1.out; simp; omega)
            go_region_law ((first
              | (refine step_lvs (W := w) (w0 := wx.drew) (sl := .slice none 0 0) (l := []) (l2 := l.take j) FlOk elem_flow (fun h => h) (by omega) rfl (.const (.slice none 0 0)) (.tmp 42) rfl (by first | (simp [Act.eval]; done) | (simp [Act.eval]; rfl) | rfl) N1.out (by first | (simp [Act.eval]; done) | (simp [Act.eval]; rfl) | rfl) T1.out HL1.out ?_
                 intro A9 m9 c9 w9 h9 k9 r9
                 go_must (have K9 := Lib.hid (Kept.trans (S := []) ((Kept.refl [] wx).drew) (show Kept [] wx.drew w9 from k9) (by simp)))
                 go_must (have hx9 := (BX.out.kept K9.out (by simp)).cell)
                 have H9 := Lib.hid h9
                 clear h9 k9 r9)
              | (refine step_lvs (W := w) (w0 := (wx.alloc (.cells #[.int .u32 (f.tup.src.toNat : Nat), .int .u32 (f.tup.dst.toNat : Nat), .int .i64 f.tup.proto, .int .i64 f.tup.sport, .int .i64 f.tup.dport, .int .i64 f.back, .int .i64 f.gen, .int .i64 f.seen] 41)).drew) (sl := .slice none 0 0) (l := []) (l2 := l.take j) FlOk elem_flow (fun h => h) (by omega) rfl (.const (.slice none 0 0)) (.tmp 42) rfl (by first | (simp [Act.eval]; done) | (simp [Act.eval]; rfl) | rfl) N2.out (by first | (simp [Act.eval]; done) | (simp [Act.eval]; rfl) | rfl) T2.out HL1.out ?_
                 intro A9 m9 c9 w9 h9 k9 r9
                 go_must (have K9 := Lib.hid (Kept.trans (S := []) KA.out (show Kept [] _ w9 from k9) (by simp)))
                 go_must (have BN9 := Lib.hid (BN.out.kept (S := []) (show Kept [] _ w9 from k9) (by simp)))
                 have H9 := Lib.hid h9
                 clear h9 k9 r9)
              | (refine step_lvs (W := w) (w0 := w9) (sl := .slice A9 m9 c9) (l := [] ++ l.take j) (l2 := [f]) FlOk elem_flow (fun h => h) (by omega) rfl (.tmp 43) (.tmp 45) rfl (by first | (simp [Act.eval]; done) | (simp [Act.eval]; rfl) | rfl) H9.out (by first | (simp [Act.eval]; done) | (simp [Act.eval]; rfl) | rfl) (arr_blk BN9.out rfl rfl) HL2.out ?_
                 intro A10 m10 c10 w10 h10 k10 r10
                 go_must (have RX10 := Lib.hid (FlArr.kept (FlArr.kept RX.out K9.out (by simp)) k10 (fun k hk hm => by have h1 := HG.out k hk; have h2 := (r10 k hm).1; omega)))
                 have H10 := Lib.hid h10
                 clear h10 k10 r10)
              | (refine step_lvs (W := w) (w0 := w9.alloc (.cells #[.int .u32 (f.tup.src.toNat : Nat), .int .u32 (f.tup.dst.toNat : Nat), .int .i64 f.tup.proto, .int .i64 f.tup.sport, .int .i64 f.tup.dport, .int .i64 f.back, .int .i64 f.gen, .int .i64 f.seen] 41)) (sl := .slice A9 m9 c9) (l := [] ++ l.take j) (l2 := [f]) FlOk elem_flow (fun h => h) (by omega) rfl (.tmp 43) (.tmp 45) rfl (by first | (simp [Act.eval]; done) | (simp [Act.eval]; rfl) | rfl) (LV.go FlOk H9.out ((Kept.refl [] w9).alloc _)) (by first | (simp [Act.eval]; done) | (simp [Act.eval]; rfl) | rfl) (arr_blk (Blk.new w9 41 #[.int .u32 (f.tup.src.toNat : Nat), .int .u32 (f.tup.dst.toNat : Nat), .int .i64 f.tup.proto, .int .i64 f.tup.sport, .int .i64 f.tup.dport, .int .i64 f.back, .int .i64 f.gen, .int .i64 f.seen]) rfl rfl) HL2.out ?_
                 intro A10 m10 c10 w10 h10 k10 r10
                 go_must (have RX10 := Lib.hid (FlArr.kept (FlArr.kept RX.out (K9.out.alloc _) (by simp)) k10 (fun k hk hm => by have h1 := HG.out k hk; have h2 := (r10 k hm).1; omega)))
                 have H10 := Lib.hid h10
                 clear h10 k10 r10)
              | (refine step_lvs (W := w) (w0 := w10) (sl := .slice A10 m10 c10) (l := [] ++ l.take j ++ [f]) (l2 := l.drop j) FlOk elem_flow (fun h => h) (by omega) rfl (.tmp 46) (.tmp 47) rfl (by first | (simp [Act.eval]; done) | (simp [Act.eval]; rfl) | rfl) H10.out (by first | (simp [Act.eval]; done) | (simp [Act.eval]; rfl) | rfl) RX10.out HL3.out ?_
                 intro A11 m11 c11 w11 h11 k11 r11
                 have H11 := Lib.hid h11
                 clear h11 k11 r11)))
            all_goals
              go_wp2
              go_ret
              exact ⟨A11, m11, c11, rfl, by rw [HPO.out HB.out HT.out]; have := H11.out; rwa [List.nil_append] at this⟩
      · clear hb
        go_wp2
        go_region_held3 (fun w' => w'.cell? ⟨g, o + j * 8, none⟩ = some (.int .u32 (x.tup.src.toNat : Nat)) ∧ w'.cell? ⟨g, o + j * 8 + 1, none⟩ = some (.int .u32 (x.tup.dst.toNat : Nat)) ∧ w'.cell? ⟨g, o + j * 8 + 2, none⟩ = some (.int .i64 x.tup.proto) ∧ w'.cell? ⟨g, o + j * 8 + 3, none⟩ = some (.int .i64 x.tup.sport) ∧ w'.cell? ⟨g, o + j * 8 + 4, none⟩ = some (.int .i64 x.tup.dport) ∧ ∀ q, w'.cell? ⟨w.heap.size, q, none⟩ = (#[.int .u32 (f.tup.src.toNat : Nat), .int .u32 (f.tup.dst.toNat : Nat), .int .i64 f.tup.proto, .int .i64 f.tup.sport, .int .i64 f.tup.dport, .int .i64 f.back, .int .i64 f.gen, .int .i64 f.seen] : Array Value)[q]?)
          (first | exact ⟨c0, c1, c2, c3, c4, hx0⟩ | exact ⟨(K5.out.cell (p := ⟨g, o + j * 8, none⟩) hg (by simp)).trans c0, (K5.out.cell (p := ⟨g, o + j * 8 + 1, none⟩) hg (by simp)).trans c1, (K5.out.cell (p := ⟨g, o + j * 8 + 2, none⟩) hg (by simp)).trans c2, (K5.out.cell (p := ⟨g, o + j * 8 + 3, none⟩) hg (by simp)).trans c3, (K5.out.cell (p := ⟨g, o + j * 8 + 4, none⟩) hg (by simp)).trans c4, (Bx.out.kept K5.out (by simp)).cell⟩)
          ((go_at_call 124
            refine (rLessT_any _ x.tup f.tup).mono ?_
            rintro e w5 ⟨rfl, hk5⟩
            rw [HB.out]
            have K5 := Lib.hid (((Kept.refl [] wr).drew).trans hk5 (by simp))
            clear hk5))
        all_goals
          go_wp2
          go_roundg (m - (j + 1))
          case measure => omega
          case rel =>
            refine ⟨j + 1, by omega, rfl, by go_num, fun y hy => ?_, Hkw.out.trans K5.out (by simp), Bx.out.kept K5.out (by simp)⟩
            rw [Htk.out, List.mem_append] at hy
            rcases hy with hy | hy
            · exact Hs.out y hy
            · rw [List.mem_singleton] at hy
              rw [hy]
              exact HB.out
    · obtain rfl : m = j := by omega
      have i1 : ¬ (m : Int) < (m : Int) := by omega
      have i2 : (m : Int) ≤ (c : Int) := by omega
      have HPE := Lib.hid (show putFl l f = (l.take m ++ [f]) ++ [] by
        have h1 := Hs.out
        rw [List.take_of_length_le (by rw [A1.out]; exact Nat.le_refl _)] at h1 ⊢
        exact put_end h1)
      have hwr := Hkw.out.size
      by_cases hcm : m = c
      · subst hcm
        go_wp2
        go_quiet (fail)
        go_wp2
        obtain ⟨w5, hw5⟩ : ∃ w5, wr.drewN nq = w5 := ⟨_, rfl⟩
        have K5 := Lib.hid (hw5 ▸ Hkw.out.drewN nq : Kept [] w w5)
        have B5 := Lib.hid (hw5 ▸ Bx.out.kept ((Kept.refl [] wr).drewN nq) (by simp) : Blk w5 w.heap.size 41 #[.int .u32 (f.tup.src.toNat : Nat), .int .u32 (f.tup.dst.toNat : Nat), .int .i64 f.tup.proto, .int .i64 f.tup.sport, .int .i64 f.tup.dport, .int .i64 f.back, .int .i64 f.gen, .int .i64 f.seen])
        simp only [hw5]
        clear hw5
        go_quiet (fail)
        go_wp2
        obtain ⟨wx, hwx⟩ : ∃ wx, w5.drewN nq = wx := ⟨_, rfl⟩
        have KX := Lib.hid (hwx ▸ K5.out.drewN nq : Kept [] w wx)
        have TX := Lib.hid (arr_take (k := m) (FlArr.kept H.out KX.out (by simp)) (Nat.le_refl _))
        have RX := Lib.hid (by
          cases A with
          | none => exact arr_none wx G 8 _ 0 rfl
          | some a => exact arr_zero wx G 8 _ a 0 (by unfold maxLen; omega) : FlArr wx G (.slice A 0 0) [])
        have BX := Lib.hid (hwx ▸ B5.out.kept ((Kept.refl [] w5).drewN nq) (by simp) : Blk wx w.heap.size 41 #[.int .u32 (f.tup.src.toNat : Nat), .int .u32 (f.tup.dst.toNat : Nat), .int .i64 f.tup.proto, .int .i64 f.tup.sport, .int .i64 f.tup.dport, .int .i64 f.back, .int .i64 f.gen, .int .i64 f.seen])
        simp only [hwx]
        clear hwx
        have KXD := Lib.hid (KX.out.drew)
        have KXA := Lib.hid ((KX.out.alloc (.cells #[.int .u32 (f.tup.src.toNat : Nat), .int .u32 (f.tup.dst.toNat : Nat), .int .i64 f.tup.proto, .int .i64 f.tup.sport, .int .i64 f.tup.dport, .int .i64 f.back, .int .i64 f.gen, .int .i64 f.seen] 41)).drew)
        have KA := Lib.hid (((Kept.refl [] wx).alloc (.cells #[.int .u32 (f.tup.src.toNat : Nat), .int .u32 (f.tup.dst.toNat : Nat), .int .i64 f.tup.proto, .int .i64 f.tup.sport, .int .i64 f.tup.dport, .int .i64 f.back, .int .i64 f.gen, .int .i64 f.seen] 41)).drew)
        have N1 := Lib.hid (LV.nil KXD.out : FlV w wx.drew (.slice none 0 0) [])
        have N2 := Lib.hid (LV.nil KXA.out : FlV w (wx.alloc (.cells #[.int .u32 (f.tup.src.toNat : Nat), .int .u32 (f.tup.dst.toNat : Nat), .int .i64 f.tup.proto, .int .i64 f.tup.sport, .int .i64 f.tup.dport, .int .i64 f.back, .int .i64 f.gen, .int .i64 f.seen] 41)).drew (.slice none 0 0) [])
        have T1 := Lib.hid (FlArr.kept TX.out ((Kept.refl [] wx).drew) (by simp))
        have T2 := Lib.hid (FlArr.kept TX.out KA.out (by simp))
        have BN := Lib.hid (show Blk (wx.alloc (.cells #[.int .u32 (f.tup.src.toNat : Nat), .int .u32 (f.tup.dst.toNat : Nat), .int .i64 f.tup.proto, .int .i64 f.tup.sport, .int .i64 f.tup.dport, .int .i64 f.back, .int .i64 f.gen, .int .i64 f.seen] 41)).drew wx.heap.size 41 #[.int .u32 (f.tup.src.toNat : Nat), .int .u32 (f.tup.dst.toNat : Nat), .int .i64 f.tup.proto, .int .i64 f.tup.sport, .int .i64 f.tup.dport, .int .i64 f.back, .int .i64 f.gen, .int .i64 f.seen] from by (repeat (first | (apply Blk.new'; simp; done) | apply Blk.alloc | apply Blk.drew)))
        have hbx := BX.out.cell
        have HL1 := Lib.hid (show ([] : List FlD).length + (l.take m).length ≤ 100000 by have := A1.out; simp; omega)
        have HL2 := Lib.hid (show ([] ++ l.take m : List FlD).length + [f].length ≤ 100000 by have := A1.out; simp; omega)
        have HL3 := Lib.hid (show ([] ++ l.take m ++ [f] : List FlD).length + ([] : List FlD).length ≤ 100000 by have := A1.out; simp; omega)
        go_region_law ((first
          | (refine step_lvs (W := w) (w0 := wx.drew) (sl := .slice none 0 0) (l := []) (l2 := l.take m) FlOk elem_flow (fun h => h) (by omega) rfl (.const (.slice none 0 0)) (.tmp 42) rfl (by first | (simp [Act.eval]; done) | (simp [Act.eval]; rfl) | rfl) N1.out (by first | (simp [Act.eval]; done) | (simp [Act.eval]; rfl) | rfl) T1.out HL1.out ?_
             intro A9 m9 c9 w9 h9 k9 r9
             go_must (have K9 := Lib.hid (Kept.trans (S := []) ((Kept.refl [] wx).drew) (show Kept [] wx.drew w9 from k9) (by simp)))
             go_must (have hx9 := (BX.out.kept K9.out (by simp)).cell)
             have H9 := Lib.hid h9
             clear h9 k9 r9)
          | (refine step_lvs (W := w) (w0 := (wx.alloc (.cells #[.int .u32 (f.tup.src.toNat : Nat), .int .u32 (f.tup.dst.toNat : Nat), .int .i64 f.tup.proto, .int .i64 f.tup.sport, .int .i64 f.tup.dport, .int .i64 f.back, .int .i64 f.gen, .int .i64 f.seen] 41)).drew) (sl := .slice none 0 0) (l := []) (l2 := l.take m) FlOk elem_flow (fun h => h) (by omega) rfl (.const (.slice none 0 0)) (.tmp 42) rfl (by first | (simp [Act.eval]; done) | (simp [Act.eval]; rfl) | rfl) N2.out (by first | (simp [Act.eval]; done) | (simp [Act.eval]; rfl) | rfl) T2.out HL1.out ?_
             intro A9 m9 c9 w9 h9 k9 r9
             go_must (have K9 := Lib.hid (Kept.trans (S := []) KA.out (show Kept [] _ w9 from k9) (by simp)))
             go_must (have BN9 := Lib.hid (BN.out.kept (S := []) (show Kept [] _ w9 from k9) (by simp)))
             have H9 := Lib.hid h9
             clear h9 k9 r9)
          | (refine step_lvs (W := w) (w0 := w9) (sl := .slice A9 m9 c9) (l := [] ++ l.take m) (l2 := [f]) FlOk elem_flow (fun h => h) (by omega) rfl (.tmp 43) (.tmp 45) rfl (by first | (simp [Act.eval]; done) | (simp [Act.eval]; rfl) | rfl) H9.out (by first | (simp [Act.eval]; done) | (simp [Act.eval]; rfl) | rfl) (arr_blk BN9.out rfl rfl) HL2.out ?_
             intro A10 m10 c10 w10 h10 k10 r10
             go_must (have RX10 := Lib.hid (FlArr.kept (FlArr.kept RX.out K9.out (by simp)) k10 (fun k hk hm => by have h1 := HG.out k hk; have h2 := (r10 k hm).1; omega)))
             have H10 := Lib.hid h10
             clear h10 k10 r10)
          | (refine step_lvs (W := w) (w0 := w9.alloc (.cells #[.int .u32 (f.tup.src.toNat : Nat), .int .u32 (f.tup.dst.toNat : Nat), .int .i64 f.tup.proto, .int .i64 f.tup.sport, .int .i64 f.tup.dport, .int .i64 f.back, .int .i64 f.gen, .int .i64 f.seen] 41)) (sl := .slice A9 m9 c9) (l := [] ++ l.take m) (l2 := [f]) FlOk elem_flow (fun h => h) (by omega) rfl (.tmp 43) (.tmp 45) rfl (by first | (simp [Act.eval]; done) | (simp [Act.eval]; rfl) | rfl) (LV.go FlOk H9.out ((Kept.refl [] w9).alloc _)) (by first | (simp [Act.eval]; done) | (simp [Act.eval]; rfl) | rfl) (arr_blk (Blk.new w9 41 #[.int .u32 (f.tup.src.toNat : Nat), .int .u32 (f.tup.dst.toNat : Nat), .int .i64 f.tup.proto, .int .i64 f.tup.sport, .int .i64 f.tup.dport, .int .i64 f.back, .int .i64 f.gen, .int .i64 f.seen]) rfl rfl) HL2.out ?_
             intro A10 m10 c10 w10 h10 k10 r10
             go_must (have RX10 := Lib.hid (FlArr.kept (FlArr.kept RX.out (K9.out.alloc _) (by simp)) k10 (fun k hk hm => by have h1 := HG.out k hk; have h2 := (r10 k hm).1; omega)))
             have H10 := Lib.hid h10
             clear h10 k10 r10)
          | (refine step_lvs (W := w) (w0 := w10) (sl := .slice A10 m10 c10) (l := [] ++ l.take m ++ [f]) (l2 := []) FlOk elem_flow (fun h => h) (by omega) rfl (.tmp 46) (.tmp 47) rfl (by first | (simp [Act.eval]; done) | (simp [Act.eval]; rfl) | rfl) H10.out (by first | (simp [Act.eval]; done) | (simp [Act.eval]; rfl) | rfl) RX10.out HL3.out ?_
             intro A11 m11 c11 w11 h11 k11 r11
             have H11 := Lib.hid h11
             clear h11 k11 r11)))
        all_goals
          go_wp2
          go_ret
          exact ⟨A11, m11, c11, rfl, by rw [HPE.out]; have := H11.out; rwa [List.nil_append] at this⟩
      · obtain ⟨a, rfl⟩ : ∃ a, A = some a := by
          cases A with
          | none => exact absurd (by have := A4.out rfl; omega) hcm
          | some a => exact ⟨a, rfl⟩
        go_wp2
        go_quiet (fail)
        go_wp2
        obtain ⟨w5, hw5⟩ : ∃ w5, wr.drewN nq = w5 := ⟨_, rfl⟩
        have K5 := Lib.hid (hw5 ▸ Hkw.out.drewN nq : Kept [] w w5)
        have B5 := Lib.hid (hw5 ▸ Bx.out.kept ((Kept.refl [] wr).drewN nq) (by simp) : Blk w5 w.heap.size 41 #[.int .u32 (f.tup.src.toNat : Nat), .int .u32 (f.tup.dst.toNat : Nat), .int .i64 f.tup.proto, .int .i64 f.tup.sport, .int .i64 f.tup.dport, .int .i64 f.back, .int .i64 f.gen, .int .i64 f.seen])
        simp only [hw5]
        clear hw5
        go_quiet (fail)
        go_wp2
        obtain ⟨a2, ha2⟩ : ∃ a2, a.add (m * 8) = a2 := ⟨_, rfl⟩
        obtain ⟨C2, hC2⟩ : ∃ C2, c - m = C2 := ⟨_, rfl⟩
        have hC3 : C2 ≤ 2 ^ 63 - 1 := by omega
        obtain ⟨wx, hwx⟩ : ∃ wx, w5.drewN nq = wx := ⟨_, rfl⟩
        have KX := Lib.hid (hwx ▸ K5.out.drewN nq : Kept [] w wx)
        have TX := Lib.hid (arr_take (k := m) (FlArr.kept H.out KX.out (by simp)) (Nat.le_refl _))
        have RX := Lib.hid (arr_zero wx G 8 _ a2 C2 (by unfold maxLen; omega) : FlArr wx G (.slice (some a2) 0 C2) [])
        have BX := Lib.hid (hwx ▸ B5.out.kept ((Kept.refl [] w5).drewN nq) (by simp) : Blk wx w.heap.size 41 #[.int .u32 (f.tup.src.toNat : Nat), .int .u32 (f.tup.dst.toNat : Nat), .int .i64 f.tup.proto, .int .i64 f.tup.sport, .int .i64 f.tup.dport, .int .i64 f.back, .int .i64 f.gen, .int .i64 f.seen])
        simp only [hwx, ha2, hC2]
        clear hwx ha2 hC2
        have KXD := Lib.hid (KX.out.drew)
        have KXA := Lib.hid ((KX.out.alloc (.cells #[.int .u32 (f.tup.src.toNat : Nat), .int .u32 (f.tup.dst.toNat : Nat), .int .i64 f.tup.proto, .int .i64 f.tup.sport, .int .i64 f.tup.dport, .int .i64 f.back, .int .i64 f.gen, .int .i64 f.seen] 41)).drew)
        have KA := Lib.hid (((Kept.refl [] wx).alloc (.cells #[.int .u32 (f.tup.src.toNat : Nat), .int .u32 (f.tup.dst.toNat : Nat), .int .i64 f.tup.proto, .int .i64 f.tup.sport, .int .i64 f.tup.dport, .int .i64 f.back, .int .i64 f.gen, .int .i64 f.seen] 41)).drew)
        have N1 := Lib.hid (LV.nil KXD.out : FlV w wx.drew (.slice none 0 0) [])
        have N2 := Lib.hid (LV.nil KXA.out : FlV w (wx.alloc (.cells #[.int .u32 (f.tup.src.toNat : Nat), .int .u32 (f.tup.dst.toNat : Nat), .int .i64 f.tup.proto, .int .i64 f.tup.sport, .int .i64 f.tup.dport, .int .i64 f.back, .int .i64 f.gen, .int .i64 f.seen] 41)).drew (.slice none 0 0) [])
        have T1 := Lib.hid (FlArr.kept TX.out ((Kept.refl [] wx).drew) (by simp))
        have T2 := Lib.hid (FlArr.kept TX.out KA.out (by simp))
        have BN := Lib.hid (show Blk (wx.alloc (.cells #[.int .u32 (f.tup.src.toNat : Nat), .int .u32 (f.tup.dst.toNat : Nat), .int .i64 f.tup.proto, .int .i64 f.tup.sport, .int .i64 f.tup.dport, .int .i64 f.back, .int .i64 f.gen, .int .i64 f.seen] 41)).drew wx.heap.size 41 #[.int .u32 (f.tup.src.toNat : Nat), .int .u32 (f.tup.dst.toNat : Nat), .int .i64 f.tup.proto, .int .i64 f.tup.sport, .int .i64 f.tup.dport, .int .i64 f.back, .int .i64 f.gen, .int .i64 f.seen] from by (repeat (first | (apply Blk.new'; simp; done) | apply Blk.alloc | apply Blk.drew)))
        have hbx := BX.out.cell
        have HL1 := Lib.hid (show ([] : List FlD).length + (l.take m).length ≤ 100000 by have := A1.out; simp; omega)
        have HL2 := Lib.hid (show ([] ++ l.take m : List FlD).length + [f].length ≤ 100000 by have := A1.out; simp; omega)
        have HL3 := Lib.hid (show ([] ++ l.take m ++ [f] : List FlD).length + ([] : List FlD).length ≤ 100000 by have := A1.out; simp; omega)
        go_region_law ((first
          | (refine step_lvs (W := w) (w0 := wx.drew) (sl := .slice none 0 0) (l := []) (l2 := l.take m) FlOk elem_flow (fun h => h) (by omega) rfl (.const (.slice none 0 0)) (.tmp 42) rfl (by first | (simp [Act.eval]; done) | (simp [Act.eval]; rfl) | rfl) N1.out (by first | (simp [Act.eval]; done) | (simp [Act.eval]; rfl) | rfl) T1.out HL1.out ?_
             intro A9 m9 c9 w9 h9 k9 r9
             go_must (have K9 := Lib.hid (Kept.trans (S := []) ((Kept.refl [] wx).drew) (show Kept [] wx.drew w9 from k9) (by simp)))
             go_must (have hx9 := (BX.out.kept K9.out (by simp)).cell)
             have H9 := Lib.hid h9
             clear h9 k9 r9)
          | (refine step_lvs (W := w) (w0 := (wx.alloc (.cells #[.int .u32 (f.tup.src.toNat : Nat), .int .u32 (f.tup.dst.toNat : Nat), .int .i64 f.tup.proto, .int .i64 f.tup.sport, .int .i64 f.tup.dport, .int .i64 f.back, .int .i64 f.gen, .int .i64 f.seen] 41)).drew) (sl := .slice none 0 0) (l := []) (l2 := l.take m) FlOk elem_flow (fun h => h) (by omega) rfl (.const (.slice none 0 0)) (.tmp 42) rfl (by first | (simp [Act.eval]; done) | (simp [Act.eval]; rfl) | rfl) N2.out (by first | (simp [Act.eval]; done) | (simp [Act.eval]; rfl) | rfl) T2.out HL1.out ?_
             intro A9 m9 c9 w9 h9 k9 r9
             go_must (have K9 := Lib.hid (Kept.trans (S := []) KA.out (show Kept [] _ w9 from k9) (by simp)))
             go_must (have BN9 := Lib.hid (BN.out.kept (S := []) (show Kept [] _ w9 from k9) (by simp)))
             have H9 := Lib.hid h9
             clear h9 k9 r9)
          | (refine step_lvs (W := w) (w0 := w9) (sl := .slice A9 m9 c9) (l := [] ++ l.take m) (l2 := [f]) FlOk elem_flow (fun h => h) (by omega) rfl (.tmp 43) (.tmp 45) rfl (by first | (simp [Act.eval]; done) | (simp [Act.eval]; rfl) | rfl) H9.out (by first | (simp [Act.eval]; done) | (simp [Act.eval]; rfl) | rfl) (arr_blk BN9.out rfl rfl) HL2.out ?_
             intro A10 m10 c10 w10 h10 k10 r10
             go_must (have RX10 := Lib.hid (FlArr.kept (FlArr.kept RX.out K9.out (by simp)) k10 (fun k hk hm => by have h1 := HG.out k hk; have h2 := (r10 k hm).1; omega)))
             have H10 := Lib.hid h10
             clear h10 k10 r10)
          | (refine step_lvs (W := w) (w0 := w9.alloc (.cells #[.int .u32 (f.tup.src.toNat : Nat), .int .u32 (f.tup.dst.toNat : Nat), .int .i64 f.tup.proto, .int .i64 f.tup.sport, .int .i64 f.tup.dport, .int .i64 f.back, .int .i64 f.gen, .int .i64 f.seen] 41)) (sl := .slice A9 m9 c9) (l := [] ++ l.take m) (l2 := [f]) FlOk elem_flow (fun h => h) (by omega) rfl (.tmp 43) (.tmp 45) rfl (by first | (simp [Act.eval]; done) | (simp [Act.eval]; rfl) | rfl) (LV.go FlOk H9.out ((Kept.refl [] w9).alloc _)) (by first | (simp [Act.eval]; done) | (simp [Act.eval]; rfl) | rfl) (arr_blk (Blk.new w9 41 #[.int .u32 (f.tup.src.toNat : Nat), .int .u32 (f.tup.dst.toNat : Nat), .int .i64 f.tup.proto, .int .i64 f.tup.sport, .int .i64 f.tup.dport, .int .i64 f.back, .int .i64 f.gen, .int .i64 f.seen]) rfl rfl) HL2.out ?_
             intro A10 m10 c10 w10 h10 k10 r10
             go_must (have RX10 := Lib.hid (FlArr.kept (FlArr.kept RX.out (K9.out.alloc _) (by simp)) k10 (fun k hk hm => by have h1 := HG.out k hk; have h2 := (r10 k hm).1; omega)))
             have H10 := Lib.hid h10
             clear h10 k10 r10)
          | (refine step_lvs (W := w) (w0 := w10) (sl := .slice A10 m10 c10) (l := [] ++ l.take m ++ [f]) (l2 := []) FlOk elem_flow (fun h => h) (by omega) rfl (.tmp 46) (.tmp 47) rfl (by first | (simp [Act.eval]; done) | (simp [Act.eval]; rfl) | rfl) H10.out (by first | (simp [Act.eval]; done) | (simp [Act.eval]; rfl) | rfl) RX10.out HL3.out ?_
             intro A11 m11 c11 w11 h11 k11 r11
             have H11 := Lib.hid h11
             clear h11 k11 r11)))
        all_goals
          go_wp2
          go_ret
          exact ⟨A11, m11, c11, rfl, by rw [HPE.out]; have := H11.out; rwa [List.nil_append] at this⟩
end
end Go.Proofs.YtkacghjglicjiaaGreat
