
/-
  StateLast: the walk.
-/
import Derived.Test.YtdabbkkjmmbigaaStX
namespace Go.Proofs.Ytdabbkkjmmbigaa
open Go.RowKit Go.ChangeShapes Go.WideShapes Go.ChangeAt Go.Deep Go.MapKept
set_option linter.unusedVariables false

theorem sameT_self (t : TupD) : sameT t t = true := sameT_iff.2 rfl
theorem sameFl_self (r : RecD) : sameFl r r = true := by unfold sameFl; rw [sameT_self]; simp
set_option maxRecDepth 100000 in
set_option maxHeartbeats 8000000 in
theorem StateLast_walk0 (w : World) {G : List Nat} {A : Option Addr} {m c : Nat} (l : List RecD) (k : TupD) (h : RecArr w G (.slice A m c) l) (hG : ∀ g ∈ G, g < w.heap.size) :
    Calls Try.prog 4 #[.slice A m c, .agg #[.int .u32 (k.src.toNat : Nat), .int .u32 (k.dst.toNat : Nat), .int .i64 k.proto, .int .i64 k.sport, .int .i64 k.dport]] w fun e w' => e = .returned (.bool true) ∧ Kept [] w w' := by
  obtain ⟨a1, a2, a3, a4⟩ := h.len
  have H := Lib.hid h
  have HG := Lib.hid hG
  have A1 := Lib.hid a1
  clear h a1 a4 hG
  unfold maxLen at a3
  have K0 := Lib.hid ((Kept.refl [] w).alloc (.cells #[.int .u32 (k.src.toNat : Nat), .int .u32 (k.dst.toNat : Nat), .int .i64 k.proto, .int .i64 k.sport, .int .i64 k.dport] 29))
  have X0 := Lib.hid (Blk.new w 29 #[.int .u32 (k.src.toNat : Nat), .int .u32 (k.dst.toNat : Nat), .int .i64 k.proto, .int .i64 k.sport, .int .i64 k.dport])
  have Li := Lib.hid (light_any _ l (RecArr.kept H.out K0.out (by simp)))
  go_enter Try.func4, Try.ntmps4
  cases hl : lightB l
  · have HL := Lib.hid hl
    clear hl
    go_wp2_with (first
      | (go_at_call 13
         refine Li.out.mono ?_
         rintro e w1 ⟨rfl, hk1⟩
         rw [HL.out]
         have K1 := Lib.hid (K0.out.trans hk1 (by simp))
         clear hk1)
      | (go_at_call 12
         refine (awake14_any _).mono ?_
         rintro e w2 ⟨rfl, hk2⟩
         have K2 := Lib.hid (K1.out.trans hk2 (by simp))
         clear hk2))
    go_ret
    exact ⟨rfl, K2.out⟩
  · have HL := Lib.hid hl
    have LI := Lib.hid (light_iff.1 hl)
    clear hl
    have hm : m ≤ 200 := by rw [← A1.out]; exact LI.out.1
    go_wp2_with (first
      | (go_at_call 13
         refine Li.out.mono ?_
         rintro e w1 ⟨rfl, hk1⟩
         rw [HL.out]
         have X1 := Lib.hid (X0.out.kept hk1 (by simp))
         have hs1 : w.heap.size < w1.heap.size := Nat.lt_of_lt_of_le (by simp) hk1.size
         have K1 := Lib.hid (K0.out.trans hk1 (by simp))
         clear hk1)
      | (go_at_call 9
         refine (New_any _).mono ?_
         rintro e w2 ⟨p, rfl, hn⟩
         have X2 := Lib.hid (X1.out.kept hn.kept (by simp))
         have hs2 : w.heap.size < w2.heap.size := Nat.lt_of_lt_of_le hs1 hn.kept.size
         have S2 := Lib.hid (hn.wide K1.out)
         clear hn hs1)
      | ((with_reducible show wpList _ _ _ ({ dst := none, op := Op.store 34 (.tmp 7) (.tmp 18), type := _, pos := _, after := _, guard := _ } :: _) _ _); refine wpList_put (t := 34) rfl 34 (.tmp 7) (.tmp 18) rfl _ (by rfl) (by rfl) (by (repeat (first | (apply Blk.new'; simp; done) | apply Blk.alloc | apply Blk.drew))) (by rfl) (by kernel_rfl) (by simp [Value.oneCell']) ?_; intro w3 hb3 hk3; have Hb3 := Lib.hid hb3; have Hk3 := Lib.hid hk3; clear hb3 hk3))
    have K3 : Hid (Kept [] w2 w3) := Lib.hid ((((Kept.refl [] w2).alloc _).alloc _).trans Hk3.out (fun i hi => .inr (by simp at hi; omega)))
    have Y3 := Lib.hid (Blk.kept (((Blk.new w2 34 #[.int .i64 0, .int .u32 0, .int .u32 0, .int .i64 0, .int .i64 0, .int .i64 0, .int .i64 0, .int .i64 0, .int .i64 0, .int .i64 0, .slice none 0 0, .int .i64 0, .int .i64 0, .int .i64 0]).alloc _)) Hk3.out (by simp))
    obtain ⟨g6, hg6⟩ : ∃ g, w2.heap.size = g := ⟨_, rfl⟩
    obtain ⟨g7, hg7⟩ : ∃ g, w2.heap.size + 1 = g := ⟨_, rfl⟩
    have h67 : g7 = g6 + 1 := by rw [← hg6, ← hg7]
    have HW0 : Hid (LastW w w3 p w.heap.size g6 g7 k newS default default) := Lib.hid ⟨S2.out.go K3.out, X2.out.kept K3.out (by simp), ⟨none, 0, 0, by rw [← hg6]; exact Y3.out⟩, ⟨none, 0, 0, rfl, by rw [← hg7]; exact Hb3.out⟩, by omega, by omega, by omega⟩
    simp only [hg7]
    simp only [hg6]
    clear hg7 h67 Hk3 Hb3 K3 Y3 S2 X2
    go_loopg [21] m (fun gg i wr => ∃ (j : Nat) (S : StD) (last gen : RecD), j ≤ m ∧ gg = m - j ∧ i = .int .i64 j ∧ LastI k S last gen ∧ LastW w wr p w.heap.size g6 g7 k S last gen)
    case atStart => exact ⟨0, newS, default, default, by omega, by omega, rfl, LastI.new k, HW0.out⟩
    case round =>
      clear HW0
      obtain ⟨j, S, last, gen, hj, rfl, rfl, hI, hW⟩ := hrel
      have HI := Lib.hid hI
      have HW := Lib.hid hW
      have h6w : g6 < wr.heap.size ∧ g7 < wr.heap.size := by
        obtain ⟨_, _, _, b6⟩ := hW.bl
        obtain ⟨_, _, _, _, b7⟩ := hW.bg
        exact ⟨b6.lt, b7.lt⟩
      clear hI hW
      by_cases hlt : j < m
      · have hkl : j < l.length := by rw [A1.out]; exact hlt
        obtain ⟨g, o, B, n, d, rfl, hg, hgG, hat, hbk⟩ := (RecArr.kept H.out HW.out.st.kept (by simp)).at (k := j) hkl
        have hn40 := LI.out.2 l[j] (List.getElem_mem hkl)
        have Hn := Lib.hid hbk.len
        have hn40 : n ≤ 40 := by rw [← hbk.len.1]; exact hn40
        have Hbk := Lib.hid hbk
        clear hbk
        generalize l[j]'hkl = r at *
        obtain ⟨c0, c1, c2, c3, c4, c5, c6, c7, c8, c9, c10, c11, c12, c13⟩ := hat
        have i0 : (0 : Int) ≤ (j : Int) := by omega
        have i1 : (j : Int) < (m : Int) := by omega
        have iw : IntKind.i64.wrap ((j : Int) + 1) = (j : Int) + 1 := IntWalk.i64_in _ (by omega)
        have HST := Lib.hid (HI.out.step r)
        have AP := Lib.hid (fun (w' : World) (hk : Kept [] wr w') => apply_own (HW.out.st.go hk) HI.out.ok r (⟨BkArr.kept Hbk.out hk (by simp), fun q hq => Nat.lt_of_lt_of_le (HG.out q hq) (HW.out.st.kept.trans hk (by simp)).size, by omega⟩ : SmallB w' G B n d r.backs))
        by_cases he : errS S r = 0
        · have HE : Hid (errS S r = 0) := Lib.hid he
          by_cases h1 : r.kind = 1
          · by_cases ht : sameT r.tup k = true
            · have HT := Lib.hid (sameT_iff.1 ht)
              have e1 : (r.kind == 1) = true := by simp [h1]
              have e2 : (r.kind == 2) = false := by simp [h1]
              have e3 : (r.kind == 3) = false := by simp [h1]
              have HK : Hid (r.kind = 1) := Lib.hid h1
              have hq := eqT_run r.tup k
              have hgq : Try.prog.eqGuardType Try.prog.depth 29 = false := by kernel_rfl
              rw [ht] at hq
              clear ht he h1
              go_wp2_with (first
                | (((with_reducible show wpList _ _ _ ({ dst := none, op := Op.store 34 (.tmp 9) (.tmp 24), type := _, pos := _, after := _, guard := _ } :: _) _ _); refine wpList_put (t := 34) rfl 34 (.tmp 9) (.tmp 24) rfl _ (by rfl) (by rfl) (by (repeat (first | (apply Blk.new'; simp; done) | apply Blk.alloc | apply Blk.drew))) (by rfl) (by kernel_rfl) (by simp [Value.oneCell']) ?_; intro w5 hb5 hk5; have Hb5 := Lib.hid hb5; have Hk5 := Lib.hid hk5; clear hb5 hk5); have K5 := Lib.hid (((Kept.refl [] wr).alloc _).trans Hk5.out (fun i hi => .inr (by simp at hi; omega))); have hx5 := Hb5.out.cell)
                | (go_at_call 10
                   refine (AP.out _ K5.out).mono ?_
                   rintro e w6 ⟨rfl, hs6, hz6, hb6⟩
                   rw [HE.out]
                   have HW6 := Lib.hid ((HW.out.go K5.out).applied hs6 hb6)
                   have X6 := Lib.hid (hb6 _ _ _ Hb5.out (by decide))
                   have T6 := Lib.hid (HW6.out.bk)
                   have hx6 := X6.out.cell
                   have ht6 := T6.out.cell
                   obtain ⟨A6, m6, c6', bl6⟩ := HW6.out.bl
                   obtain ⟨A7, m7, c7', hm7, bg6⟩ := HW6.out.bg
                   have BL6 := Lib.hid bl6
                   have BG6 := Lib.hid bg6
                   have hz6' : wr.heap.size ≤ w6.heap.size := Nat.le_trans K5.out.size hz6
                   clear hs6 hb6 bl6 bg6 hm7 hz6)
                | (((with_reducible show wpList _ _ _ ({ dst := none, op := Op.store 34 (.tmp 6) (.tmp 44), type := _, pos := _, after := _, guard := _ } :: _) _ _); refine wpList_put (t := 34) rfl 34 (.tmp 6) (.tmp 44) rfl _ (by rfl) (by rfl) (by exact BL6.out) (by rfl) (by kernel_rfl) (by simp [Value.oneCell']) ?_; intro w7 hb7 hk7; have Hb7 := Lib.hid hb7; have Hk7 := Lib.hid hk7; clear hb7 hk7); have HW7 := Lib.hid (HW6.out.putL Hb7.out Hk7.out); have X7 := Lib.hid (X6.out.kept Hk7.out (by simp; omega)); have hx7 := X7.out.cell))
              go_roundg (m - (j + 1))
              case measure => omega
              case rel =>
                have hst := HST.out
                rw [show lastK k S last r = r from if_pos ⟨HE.out, .inl HK.out, HT.out⟩, show lastG S gen r = gen from if_neg (fun hc => by have := hc.2; rw [HK.out] at this; omega)] at hst
                exact ⟨j + 1, _, _, _, by omega, rfl, by go_num, hst, HW7.out⟩
            · have HT := Lib.hid (fun hc => ht (sameT_iff.2 hc))
              have hb : sameT r.tup k = false := by simpa using ht
              have e1 : (r.kind == 1) = true := by simp [h1]
              have e2 : (r.kind == 2) = false := by simp [h1]
              have e3 : (r.kind == 3) = false := by simp [h1]
              have HK : Hid (r.kind = 1) := Lib.hid h1
              have hq := eqT_run r.tup k
              have hgq : Try.prog.eqGuardType Try.prog.depth 29 = false := by kernel_rfl
              rw [hb] at hq
              clear hb ht he h1
              go_wp2_with (first
                | (((with_reducible show wpList _ _ _ ({ dst := none, op := Op.store 34 (.tmp 9) (.tmp 24), type := _, pos := _, after := _, guard := _ } :: _) _ _); refine wpList_put (t := 34) rfl 34 (.tmp 9) (.tmp 24) rfl _ (by rfl) (by rfl) (by (repeat (first | (apply Blk.new'; simp; done) | apply Blk.alloc | apply Blk.drew))) (by rfl) (by kernel_rfl) (by simp [Value.oneCell']) ?_; intro w5 hb5 hk5; have Hb5 := Lib.hid hb5; have Hk5 := Lib.hid hk5; clear hb5 hk5); have K5 := Lib.hid (((Kept.refl [] wr).alloc _).trans Hk5.out (fun i hi => .inr (by simp at hi; omega))); have hx5 := Hb5.out.cell)
                | (go_at_call 10
                   refine (AP.out _ K5.out).mono ?_
                   rintro e w6 ⟨rfl, hs6, hz6, hb6⟩
                   rw [HE.out]
                   have HW6 := Lib.hid ((HW.out.go K5.out).applied hs6 hb6)
                   have X6 := Lib.hid (hb6 _ _ _ Hb5.out (by decide))
                   have T6 := Lib.hid (HW6.out.bk)
                   have hx6 := X6.out.cell
                   have ht6 := T6.out.cell
                   obtain ⟨A6, m6, c6', bl6⟩ := HW6.out.bl
                   obtain ⟨A7, m7, c7', hm7, bg6⟩ := HW6.out.bg
                   have BL6 := Lib.hid bl6
                   have BG6 := Lib.hid bg6
                   have hz6' : wr.heap.size ≤ w6.heap.size := Nat.le_trans K5.out.size hz6
                   clear hs6 hb6 bl6 bg6 hm7 hz6))
              go_roundg (m - (j + 1))
              case measure => omega
              case rel =>
                have hst := HST.out
                rw [show lastK k S last r = last from if_neg (fun hc => HT.out hc.2.2), show lastG S gen r = gen from if_neg (fun hc => by have := hc.2; rw [HK.out] at this; omega)] at hst
                exact ⟨j + 1, _, _, _, by omega, rfl, by go_num, hst, HW6.out⟩
          · by_cases h2 : r.kind = 2
            · by_cases ht : sameT r.tup k = true
              · have HT := Lib.hid (sameT_iff.1 ht)
                have e1 : (r.kind == 1) = false := by simp [h2]
                have e2 : (r.kind == 2) = true := by simp [h2]
                have e3 : (r.kind == 3) = false := by simp [h2]
                have HK : Hid (r.kind = 2) := Lib.hid h2
                have hq := eqT_run r.tup k
                have hgq : Try.prog.eqGuardType Try.prog.depth 29 = false := by kernel_rfl
                rw [ht] at hq
                clear ht he h1 h2
                go_wp2_with (first
                  | (((with_reducible show wpList _ _ _ ({ dst := none, op := Op.store 34 (.tmp 9) (.tmp 24), type := _, pos := _, after := _, guard := _ } :: _) _ _); refine wpList_put (t := 34) rfl 34 (.tmp 9) (.tmp 24) rfl _ (by rfl) (by rfl) (by (repeat (first | (apply Blk.new'; simp; done) | apply Blk.alloc | apply Blk.drew))) (by rfl) (by kernel_rfl) (by simp [Value.oneCell']) ?_; intro w5 hb5 hk5; have Hb5 := Lib.hid hb5; have Hk5 := Lib.hid hk5; clear hb5 hk5); have K5 := Lib.hid (((Kept.refl [] wr).alloc _).trans Hk5.out (fun i hi => .inr (by simp at hi; omega))); have hx5 := Hb5.out.cell)
                  | (go_at_call 10
                     refine (AP.out _ K5.out).mono ?_
                     rintro e w6 ⟨rfl, hs6, hz6, hb6⟩
                     rw [HE.out]
                     have HW6 := Lib.hid ((HW.out.go K5.out).applied hs6 hb6)
                     have X6 := Lib.hid (hb6 _ _ _ Hb5.out (by decide))
                     have T6 := Lib.hid (HW6.out.bk)
                     have hx6 := X6.out.cell
                     have ht6 := T6.out.cell
                     obtain ⟨A6, m6, c6', bl6⟩ := HW6.out.bl
                     obtain ⟨A7, m7, c7', hm7, bg6⟩ := HW6.out.bg
                     have BL6 := Lib.hid bl6
                     have BG6 := Lib.hid bg6
                     have hz6' : wr.heap.size ≤ w6.heap.size := Nat.le_trans K5.out.size hz6
                     clear hs6 hb6 bl6 bg6 hm7 hz6)
                  | (((with_reducible show wpList _ _ _ ({ dst := none, op := Op.store 34 (.tmp 6) (.tmp 44), type := _, pos := _, after := _, guard := _ } :: _) _ _); refine wpList_put (t := 34) rfl 34 (.tmp 6) (.tmp 44) rfl _ (by rfl) (by rfl) (by exact BL6.out) (by rfl) (by kernel_rfl) (by simp [Value.oneCell']) ?_; intro w7 hb7 hk7; have Hb7 := Lib.hid hb7; have Hk7 := Lib.hid hk7; clear hb7 hk7); have HW7 := Lib.hid (HW6.out.putL Hb7.out Hk7.out); have X7 := Lib.hid (X6.out.kept Hk7.out (by simp; omega)); have hx7 := X7.out.cell))
                go_roundg (m - (j + 1))
                case measure => omega
                case rel =>
                  have hst := HST.out
                  rw [show lastK k S last r = r from if_pos ⟨HE.out, .inr HK.out, HT.out⟩, show lastG S gen r = gen from if_neg (fun hc => by have := hc.2; rw [HK.out] at this; omega)] at hst
                  exact ⟨j + 1, _, _, _, by omega, rfl, by go_num, hst, HW7.out⟩
              · have HT := Lib.hid (fun hc => ht (sameT_iff.2 hc))
                have hb : sameT r.tup k = false := by simpa using ht
                have e1 : (r.kind == 1) = false := by simp [h2]
                have e2 : (r.kind == 2) = true := by simp [h2]
                have e3 : (r.kind == 3) = false := by simp [h2]
                have HK : Hid (r.kind = 2) := Lib.hid h2
                have hq := eqT_run r.tup k
                have hgq : Try.prog.eqGuardType Try.prog.depth 29 = false := by kernel_rfl
                rw [hb] at hq
                clear hb ht he h1 h2
                go_wp2_with (first
                  | (((with_reducible show wpList _ _ _ ({ dst := none, op := Op.store 34 (.tmp 9) (.tmp 24), type := _, pos := _, after := _, guard := _ } :: _) _ _); refine wpList_put (t := 34) rfl 34 (.tmp 9) (.tmp 24) rfl _ (by rfl) (by rfl) (by (repeat (first | (apply Blk.new'; simp; done) | apply Blk.alloc | apply Blk.drew))) (by rfl) (by kernel_rfl) (by simp [Value.oneCell']) ?_; intro w5 hb5 hk5; have Hb5 := Lib.hid hb5; have Hk5 := Lib.hid hk5; clear hb5 hk5); have K5 := Lib.hid (((Kept.refl [] wr).alloc _).trans Hk5.out (fun i hi => .inr (by simp at hi; omega))); have hx5 := Hb5.out.cell)
                  | (go_at_call 10
                     refine (AP.out _ K5.out).mono ?_
                     rintro e w6 ⟨rfl, hs6, hz6, hb6⟩
                     rw [HE.out]
                     have HW6 := Lib.hid ((HW.out.go K5.out).applied hs6 hb6)
                     have X6 := Lib.hid (hb6 _ _ _ Hb5.out (by decide))
                     have T6 := Lib.hid (HW6.out.bk)
                     have hx6 := X6.out.cell
                     have ht6 := T6.out.cell
                     obtain ⟨A6, m6, c6', bl6⟩ := HW6.out.bl
                     obtain ⟨A7, m7, c7', hm7, bg6⟩ := HW6.out.bg
                     have BL6 := Lib.hid bl6
                     have BG6 := Lib.hid bg6
                     have hz6' : wr.heap.size ≤ w6.heap.size := Nat.le_trans K5.out.size hz6
                     clear hs6 hb6 bl6 bg6 hm7 hz6))
                go_roundg (m - (j + 1))
                case measure => omega
                case rel =>
                  have hst := HST.out
                  rw [show lastK k S last r = last from if_neg (fun hc => HT.out hc.2.2), show lastG S gen r = gen from if_neg (fun hc => by have := hc.2; rw [HK.out] at this; omega)] at hst
                  exact ⟨j + 1, _, _, _, by omega, rfl, by go_num, hst, HW6.out⟩
            · have HN : Hid (¬ (r.kind = 1 ∨ r.kind = 2)) := Lib.hid (fun hc => hc.elim h1 h2)
              by_cases h3 : r.kind = 3
              · have HK : Hid (r.kind = 3) := Lib.hid h3
                have e1 : (r.kind == 1) = false := by simp [h3]
                have e2 : (r.kind == 2) = false := by simp [h3]
                have e3 : (r.kind == 3) = true := by simp [h3]
                clear he h1 h2 h3
                go_wp2_with (first
                  | (((with_reducible show wpList _ _ _ ({ dst := none, op := Op.store 34 (.tmp 9) (.tmp 24), type := _, pos := _, after := _, guard := _ } :: _) _ _); refine wpList_put (t := 34) rfl 34 (.tmp 9) (.tmp 24) rfl _ (by rfl) (by rfl) (by (repeat (first | (apply Blk.new'; simp; done) | apply Blk.alloc | apply Blk.drew))) (by rfl) (by kernel_rfl) (by simp [Value.oneCell']) ?_; intro w5 hb5 hk5; have Hb5 := Lib.hid hb5; have Hk5 := Lib.hid hk5; clear hb5 hk5); have K5 := Lib.hid (((Kept.refl [] wr).alloc _).trans Hk5.out (fun i hi => .inr (by simp at hi; omega))); have hx5 := Hb5.out.cell)
                  | (go_at_call 10
                     refine (AP.out _ K5.out).mono ?_
                     rintro e w6 ⟨rfl, hs6, hz6, hb6⟩
                     rw [HE.out]
                     have HW6 := Lib.hid ((HW.out.go K5.out).applied hs6 hb6)
                     have X6 := Lib.hid (hb6 _ _ _ Hb5.out (by decide))
                     have T6 := Lib.hid (HW6.out.bk)
                     have hx6 := X6.out.cell
                     have ht6 := T6.out.cell
                     obtain ⟨A6, m6, c6', bl6⟩ := HW6.out.bl
                     obtain ⟨A7, m7, c7', hm7, bg6⟩ := HW6.out.bg
                     have BL6 := Lib.hid bl6
                     have BG6 := Lib.hid bg6
                     have hz6' : wr.heap.size ≤ w6.heap.size := Nat.le_trans K5.out.size hz6
                     clear hs6 hb6 bl6 bg6 hm7 hz6)
                  | (((with_reducible show wpList _ _ _ ({ dst := none, op := Op.store 34 (.tmp 7) (.tmp 48), type := _, pos := _, after := _, guard := _ } :: _) _ _); refine wpList_put (t := 34) rfl 34 (.tmp 7) (.tmp 48) rfl _ (by rfl) (by rfl) (by exact BG6.out) (by rfl) (by kernel_rfl) (by simp [Value.oneCell']) ?_; intro w8 hb8 hk8; have Hb8 := Lib.hid hb8; have Hk8 := Lib.hid hk8; clear hb8 hk8); have HW8 := Lib.hid (HW6.out.putG Hn.out.1.symm Hb8.out Hk8.out)))
                go_roundg (m - (j + 1))
                case measure => omega
                case rel =>
                  have hst := HST.out
                  rw [show lastK k S last r = last from if_neg (fun hc => HN.out hc.2.1), show lastG S gen r = r from if_pos ⟨HE.out, HK.out⟩] at hst
                  exact ⟨j + 1, _, _, _, by omega, rfl, by go_num, hst, HW8.out⟩
              · have HK : Hid (¬ r.kind = 3) := Lib.hid h3
                have e1 : (r.kind == 1) = false := by simp [h1]
                have e2 : (r.kind == 2) = false := by simp [h2]
                have e3 : (r.kind == 3) = false := by simp [h3]
                clear he h1 h2 h3
                go_wp2_with (first
                  | (((with_reducible show wpList _ _ _ ({ dst := none, op := Op.store 34 (.tmp 9) (.tmp 24), type := _, pos := _, after := _, guard := _ } :: _) _ _); refine wpList_put (t := 34) rfl 34 (.tmp 9) (.tmp 24) rfl _ (by rfl) (by rfl) (by (repeat (first | (apply Blk.new'; simp; done) | apply Blk.alloc | apply Blk.drew))) (by rfl) (by kernel_rfl) (by simp [Value.oneCell']) ?_; intro w5 hb5 hk5; have Hb5 := Lib.hid hb5; have Hk5 := Lib.hid hk5; clear hb5 hk5); have K5 := Lib.hid (((Kept.refl [] wr).alloc _).trans Hk5.out (fun i hi => .inr (by simp at hi; omega))); have hx5 := Hb5.out.cell)
                  | (go_at_call 10
                     refine (AP.out _ K5.out).mono ?_
                     rintro e w6 ⟨rfl, hs6, hz6, hb6⟩
                     rw [HE.out]
                     have HW6 := Lib.hid ((HW.out.go K5.out).applied hs6 hb6)
                     have X6 := Lib.hid (hb6 _ _ _ Hb5.out (by decide))
                     have T6 := Lib.hid (HW6.out.bk)
                     have hx6 := X6.out.cell
                     have ht6 := T6.out.cell
                     obtain ⟨A6, m6, c6', bl6⟩ := HW6.out.bl
                     obtain ⟨A7, m7, c7', hm7, bg6⟩ := HW6.out.bg
                     have BL6 := Lib.hid bl6
                     have BG6 := Lib.hid bg6
                     have hz6' : wr.heap.size ≤ w6.heap.size := Nat.le_trans K5.out.size hz6
                     clear hs6 hb6 bl6 bg6 hm7 hz6))
                go_roundg (m - (j + 1))
                case measure => omega
                case rel =>
                  have hst := HST.out
                  rw [show lastK k S last r = last from if_neg (fun hc => HN.out hc.2.1), show lastG S gen r = gen from if_neg (fun hc => HK.out hc.2)] at hst
                  exact ⟨j + 1, _, _, _, by omega, rfl, by go_num, hst, HW6.out⟩
        · have HN : Hid (¬ errS S r = 0) := Lib.hid he
          obtain ⟨e0, he0⟩ : ∃ e0, errS S r = e0 := ⟨_, rfl⟩
          have HE : Hid (errS S r = e0) := Lib.hid he0
          have i3 : (e0 == 0) = false := by rw [← he0]; simp [he]
          have i4 : (e0 != 0) = true := by rw [← he0]; simp [he]
          clear he he0
          go_wp2_with (first
            | (((with_reducible show wpList _ _ _ ({ dst := none, op := Op.store 34 (.tmp 9) (.tmp 24), type := _, pos := _, after := _, guard := _ } :: _) _ _); refine wpList_put (t := 34) rfl 34 (.tmp 9) (.tmp 24) rfl _ (by rfl) (by rfl) (by (repeat (first | (apply Blk.new'; simp; done) | apply Blk.alloc | apply Blk.drew))) (by rfl) (by kernel_rfl) (by simp [Value.oneCell']) ?_; intro w5 hb5 hk5; have Hb5 := Lib.hid hb5; have Hk5 := Lib.hid hk5; clear hb5 hk5); have K5 := Lib.hid (((Kept.refl [] wr).alloc _).trans Hk5.out (fun i hi => .inr (by simp at hi; omega))); have hx5 := Hb5.out.cell)
            | (go_at_call 10
               refine (AP.out _ K5.out).mono ?_
               rintro e w6 ⟨rfl, hs6, hz6, hb6⟩
               rw [HE.out]
               have HW6 := Lib.hid ((HW.out.go K5.out).applied hs6 hb6)
               have X6 := Lib.hid (hb6 _ _ _ Hb5.out (by decide))
               have T6 := Lib.hid (HW6.out.bk)
               have hx6 := X6.out.cell
               have ht6 := T6.out.cell
               obtain ⟨A6, m6, c6', bl6⟩ := HW6.out.bl
               obtain ⟨A7, m7, c7', hm7, bg6⟩ := HW6.out.bg
               have BL6 := Lib.hid bl6
               have BG6 := Lib.hid bg6
               have hz6' : wr.heap.size ≤ w6.heap.size := Nat.le_trans K5.out.size hz6
               clear hs6 hb6 bl6 bg6 hm7 hz6))
          go_roundg (m - (j + 1))
          case measure => omega
          case rel =>
            have hst := HST.out
            rw [show lastK k S last r = last from if_neg (fun hc => HN.out hc.1), show lastG S gen r = gen from if_neg (fun hc => HN.out hc.1)] at hst
            exact ⟨j + 1, _, _, _, by omega, rfl, by go_num, hst, HW6.out⟩
      · obtain rfl : j = m := by omega
        have i1 : ¬ (j : Int) < (j : Int) := by omega
        have AW := Lib.hid (fun w' => awake14_any w')
        have ht0 := HW.out.bk.cell
        obtain ⟨gx, hgx⟩ : ∃ g, gen.gen = g := ⟨_, rfl⟩
        obtain ⟨bx, hbx⟩ : ∃ b, gen.backs.length = b := ⟨_, rfl⟩
        have HX := Lib.hid (show S.gen = gx ∧ S.backs.length = bx from ⟨HI.out.g.trans hgx, by rw [HI.out.b]; exact hbx⟩)
        have HB := Lib.hid hbx
        clear hbx
        by_cases hk1 : last.kind = 1
        · have GE : Hid (getM S.flows k = some (flowR last)) := Lib.hid (by rw [HI.out.f, if_pos hk1])
          have e1 : (last.kind == 1) = true := by simp [hk1]
          have hq := eqFl_run last last
          rw [sameFl_self] at hq
          have hgq : Try.prog.eqGuardType Try.prog.depth 31 = false := by kernel_rfl
          clear hk1
          go_wp2_with (first
            | (go_at_call 14
               refine (Get_any HW.out.st k).mono ?_
               rintro e w8 ⟨rfl, hk8⟩
               rw [GE.out]
               have HW8 := Lib.hid (HW.out.go hk8)
               clear hk8)
            | (((with_reducible show wpList _ _ _ ({ dst := none, op := Op.store 31 (.tmp 10) (.tmp 54), type := _, pos := _, after := _, guard := _ } :: _) _ _); refine wpList_put (t := 31) rfl 31 (.tmp 10) (.tmp 54) rfl _ (by rfl) (by rfl) (by (repeat (first | (apply Blk.new'; simp; done) | apply Blk.alloc | apply Blk.drew))) (by rfl) (by kernel_rfl) (by simp [Value.oneCell']) ?_; intro w9 hb9 hk9; have Hb9 := Lib.hid hb9; have Hk9 := Lib.hid hk9; clear hb9 hk9)
               have K9 := Lib.hid (((Kept.refl [] w8).alloc _).trans Hk9.out (fun i hi => .inr (by simp at hi; omega)))
               have HW9 := Lib.hid (HW8.out.go K9.out))
            | (go_at_call 15
               refine (View_any HW9.out.st HI.out.ok).mono ?_
               rintro e wv ⟨V, A1, m1, c1, A2, m2, c2, A3, m3, c3, rfl, hv, h3⟩
               rw [hv.gen, HX.out.1]
               have em : m1 = bx := (lv_len h3.bk).trans (by rw [hv.backs]; exact HX.out.2)
               have HWv := Lib.hid (HW9.out.go (LV.kept h3.bk))
               have Fv := Lib.hid (Hb9.out.kept (LV.kept h3.bk) (by simp))
               clear hv h3)
            | (((with_reducible show wpList _ _ _ ({ dst := none, op := Op.store 45 (.tmp 12) (.tmp 57), type := _, pos := _, after := _, guard := _ } :: _) _ _); refine wpList_put (t := 45) rfl 45 (.tmp 12) (.tmp 57) rfl _ (by rfl) (by rfl) (by (repeat (first | (apply Blk.new'; simp; done) | apply Blk.alloc | apply Blk.drew))) (by rfl) (by kernel_rfl) (by simp [Value.oneCell']) ?_; intro w11 hb11 hk11; have Hb11 := Lib.hid hb11; have Hk11 := Lib.hid hk11; clear hb11 hk11)
               have K11 := Lib.hid (((Kept.refl [] wv).alloc _).trans Hk11.out (fun i hi => .inr (by simp at hi; omega)))
               have HWz := Lib.hid (HWv.out.go K11.out)
               have Fz := Lib.hid (Fv.out.kept K11.out (by simp))
               obtain ⟨A6, m6, c6', bl⟩ := HWz.out.bl
               obtain ⟨A7, m7, c7', hm7, bg⟩ := HWz.out.bg
               have em7 : m7 = bx := hm7.trans HB.out
               subst em7
               subst em
               have x1 := Hb11.out.cell
               have x2 := bl.cell
               have x3 := bg.cell
               have x4 := Fz.out.cell
               rw [hgx] at x3
               clear bl bg hm7)
            | (go_at_call 12
               refine (AW.out _).mono ?_
               rintro e wy ⟨rfl, hky⟩
               have KY := Lib.hid (HWz.out.st.kept.trans hky (by simp))
               clear hky))
          go_ret
          exact ⟨rfl, KY.out⟩
        · have GE : Hid (getM S.flows k = none) := Lib.hid (by rw [HI.out.f, if_neg hk1])
          have e1 : (last.kind == 1) = false := by simp [hk1]
          clear hk1
          go_wp2_with (first
            | (go_at_call 14
               refine (Get_any HW.out.st k).mono ?_
               rintro e w8 ⟨rfl, hk8⟩
               rw [GE.out]
               have HW8 := Lib.hid (HW.out.go hk8)
               clear hk8)
            | (((with_reducible show wpList _ _ _ ({ dst := none, op := Op.store 31 (.tmp 10) (.tmp 54), type := _, pos := _, after := _, guard := _ } :: _) _ _); refine wpList_put (t := 31) rfl 31 (.tmp 10) (.tmp 54) rfl _ (by rfl) (by rfl) (by (repeat (first | (apply Blk.new'; simp; done) | apply Blk.alloc | apply Blk.drew))) (by rfl) (by kernel_rfl) (by simp [Value.oneCell']) ?_; intro w9 hb9 hk9; have Hb9 := Lib.hid hb9; have Hk9 := Lib.hid hk9; clear hb9 hk9)
               have K9 := Lib.hid (((Kept.refl [] w8).alloc _).trans Hk9.out (fun i hi => .inr (by simp at hi; omega)))
               have HW9 := Lib.hid (HW8.out.go K9.out))
            | (go_at_call 15
               refine (View_any HW9.out.st HI.out.ok).mono ?_
               rintro e wv ⟨V, A1, m1, c1, A2, m2, c2, A3, m3, c3, rfl, hv, h3⟩
               rw [hv.gen, HX.out.1]
               have em : m1 = bx := (lv_len h3.bk).trans (by rw [hv.backs]; exact HX.out.2)
               have HWv := Lib.hid (HW9.out.go (LV.kept h3.bk))
               have Fv := Lib.hid (Hb9.out.kept (LV.kept h3.bk) (by simp))
               clear hv h3)
            | (((with_reducible show wpList _ _ _ ({ dst := none, op := Op.store 45 (.tmp 12) (.tmp 57), type := _, pos := _, after := _, guard := _ } :: _) _ _); refine wpList_put (t := 45) rfl 45 (.tmp 12) (.tmp 57) rfl _ (by rfl) (by rfl) (by (repeat (first | (apply Blk.new'; simp; done) | apply Blk.alloc | apply Blk.drew))) (by rfl) (by kernel_rfl) (by simp [Value.oneCell']) ?_; intro w11 hb11 hk11; have Hb11 := Lib.hid hb11; have Hk11 := Lib.hid hk11; clear hb11 hk11)
               have K11 := Lib.hid (((Kept.refl [] wv).alloc _).trans Hk11.out (fun i hi => .inr (by simp at hi; omega)))
               have HWz := Lib.hid (HWv.out.go K11.out)
               have Fz := Lib.hid (Fv.out.kept K11.out (by simp))
               obtain ⟨A6, m6, c6', bl⟩ := HWz.out.bl
               obtain ⟨A7, m7, c7', hm7, bg⟩ := HWz.out.bg
               have em7 : m7 = bx := hm7.trans HB.out
               subst em7
               subst em
               have x1 := Hb11.out.cell
               have x2 := bl.cell
               have x3 := bg.cell
               have x4 := Fz.out.cell
               rw [hgx] at x3
               clear bl bg hm7)
            | (go_at_call 12
               refine (AW.out _).mono ?_
               rintro e wy ⟨rfl, hky⟩
               have KY := Lib.hid (HWz.out.st.kept.trans hky (by simp))
               clear hky))
          go_ret
          exact ⟨rfl, KY.out⟩
end Go.Proofs.Ytdabbkkjmmbigaa
