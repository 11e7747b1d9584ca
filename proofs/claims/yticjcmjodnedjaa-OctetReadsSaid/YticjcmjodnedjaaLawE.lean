/-
  The walk of OctetReads.
-/
import Derived.Test.YticjcmjodnedjaaLawA
import Derived.Test.YticjcmjodnedjaaStr
import Derived.Deep.RegionWith
import Derived.BigQuiet
import Derived.Deep.QuietTactic
import Derived.Deep.DeepCutAuto
import Derived.Deep.CutBlock
namespace Go.Proofs.Yticjcmjodnedjaa
open Go.RowKit Go.ChangeShapes Go.WideShapes
set_option linter.unusedVariables false

/-- a reader's bytes and error, as they may be -/
def OkSt (bs : List UInt8) (e : Int) : Prop := e = 0 ∨ e = 2 ∧ bs = []
theorem tk_eq {bs : List UInt8} {e n : Int} (h : OkSt bs e) : tkr bs e n = tk bs e n := by
  rcases h with rfl | ⟨rfl, rfl⟩
  · unfold tk tkr
    by_cases hn : n < 0
    · rw [if_neg (by simp; omega), if_pos (Or.inr hn)]
      have : n.toNat = 0 := by omega
      simp [this]
    · by_cases hl : (bs.length : Int) < n
      · rw [if_pos (Or.inr hl), if_neg (by simp; omega), if_pos hl]
      · rw [if_neg (by simp; omega), if_neg (by simp; omega), if_neg hl]
  · simp [tk, tkr]
theorem tk_ok {bs : List UInt8} {e n : Int} (h : OkSt bs e) : OkSt (tk bs e n).2.1 (tk bs e n).2.2 := by
  unfold tk
  split
  · exact h
  · split
    · exact .inr ⟨rfl, rfl⟩
    · rename_i h1 _; exact .inl (by simp only; omega)
theorem tk_le {bs : List UInt8} {e n : Int} : (tk bs e n).2.1.length ≤ bs.length := by
  unfold tk; split; simp; split; simp; simp

/-- the two readers of OctetReads, side by side -/
structure Two (W : World) (rb mb : Nat) (bs : List UInt8) (e : Int) (w : World) : Prop where
  ex : ∃ G G', Rdr w rb G bs e ∧ Rdr1 w mb G' bs e ∧ rb ∉ G' ∧ mb ∉ G
  ne : rb ≠ mb
  r : W.heap.size ≤ rb
  m : W.heap.size ≤ mb
  kept : Kept [] W w
  ok : OkSt bs e
  len : bs.length ≤ 140737488355328
theorem Two.U8 {W w : World} {rb mb : Nat} {bs : List UInt8} {e : Int} (h : Two W rb mb bs e w) :
    ∃ P : World → Prop, Calls Try.prog 27 #[.pointer (some ⟨rb, 0, none⟩)] w (fun en w' => en = .returned (.int .i64 (num (tk bs e 1).1 : Nat)) ∧ P w') ∧
      ∀ w', P w' → Calls Try.prog 28 #[.pointer (some ⟨mb, 0, none⟩)] w' fun en w2 => en = .returned (.int .i64 (num (tk bs e 1).1 : Nat)) ∧ Two W rb mb (tk bs e 1).2.1 (tk bs e 1).2.2 w2 := by
  obtain ⟨G, G', h1, h2, h3, h4⟩ := h.ex
  refine ⟨fun w' => Rdr w' rb G (tk bs e 1).2.1 (tk bs e 1).2.2 ∧ Kept [rb] w w', RU8_any w rb G bs e h1, fun w' ⟨a1, a2⟩ => ?_⟩
  have h2' := h2.kept a2 (by simpa using fun e => h.ne e.symm) (fun k hk hm => h3 (by simp at hm; exact hm ▸ hk))
  refine (rRU8_any w' mb G' bs e h2' h.len).mono fun en w2 ⟨b1, b2, b3⟩ => ?_
  rw [tk_eq h.ok] at b1 b2
  exact ⟨b1, ⟨G, G', a1.kept b3 (by simpa using h.ne) (fun k hk hm => h4 (by simp at hm; exact hm ▸ hk)), b2, h3, h4⟩, h.ne, h.r, h.m, (h.kept.trans a2 (by simpa using h.r)).trans b3 (by simpa using h.m), tk_ok h.ok, Nat.le_trans tk_le h.len⟩

theorem Two.U16 {W w : World} {rb mb : Nat} {bs : List UInt8} {e : Int} (h : Two W rb mb bs e w) :
    ∃ P : World → Prop, Calls Try.prog 29 #[.pointer (some ⟨rb, 0, none⟩)] w (fun en w' => en = .returned (.int .i64 (num (tk bs e 2).1 : Nat)) ∧ P w') ∧
      ∀ w', P w' → Calls Try.prog 30 #[.pointer (some ⟨mb, 0, none⟩)] w' fun en w2 => en = .returned (.int .i64 (num (tk bs e 2).1 : Nat)) ∧ Two W rb mb (tk bs e 2).2.1 (tk bs e 2).2.2 w2 := by
  obtain ⟨G, G', h1, h2, h3, h4⟩ := h.ex
  refine ⟨fun w' => Rdr w' rb G (tk bs e 2).2.1 (tk bs e 2).2.2 ∧ Kept [rb] w w', RU16_any w rb G bs e h1, fun w' ⟨a1, a2⟩ => ?_⟩
  have h2' := h2.kept a2 (by simpa using fun e => h.ne e.symm) (fun k hk hm => h3 (by simp at hm; exact hm ▸ hk))
  refine (rRU16_any w' mb G' bs e h2' h.len).mono fun en w2 ⟨b1, b2, b3⟩ => ?_
  rw [tk_eq h.ok] at b1 b2
  exact ⟨b1, ⟨G, G', a1.kept b3 (by simpa using h.ne) (fun k hk hm => h4 (by simp at hm; exact hm ▸ hk)), b2, h3, h4⟩, h.ne, h.r, h.m, (h.kept.trans a2 (by simpa using h.r)).trans b3 (by simpa using h.m), tk_ok h.ok, Nat.le_trans tk_le h.len⟩

theorem Two.U32 {W w : World} {rb mb : Nat} {bs : List UInt8} {e : Int} (h : Two W rb mb bs e w) :
    ∃ P : World → Prop, Calls Try.prog 31 #[.pointer (some ⟨rb, 0, none⟩)] w (fun en w' => en = .returned (.int .u32 (num (tk bs e 4).1 : Nat)) ∧ P w') ∧
      ∀ w', P w' → Calls Try.prog 32 #[.pointer (some ⟨mb, 0, none⟩)] w' fun en w2 => en = .returned (.int .u32 (num (tk bs e 4).1 : Nat)) ∧ Two W rb mb (tk bs e 4).2.1 (tk bs e 4).2.2 w2 := by
  obtain ⟨G, G', h1, h2, h3, h4⟩ := h.ex
  refine ⟨fun w' => Rdr w' rb G (tk bs e 4).2.1 (tk bs e 4).2.2 ∧ Kept [rb] w w', RU32_any w rb G bs e h1, fun w' ⟨a1, a2⟩ => ?_⟩
  have h2' := h2.kept a2 (by simpa using fun e => h.ne e.symm) (fun k hk hm => h3 (by simp at hm; exact hm ▸ hk))
  refine (rRU32_any w' mb G' bs e h2' h.len).mono fun en w2 ⟨b1, b2, b3⟩ => ?_
  rw [tk_eq h.ok] at b1 b2
  exact ⟨b1, ⟨G, G', a1.kept b3 (by simpa using h.ne) (fun k hk hm => h4 (by simp at hm; exact hm ▸ hk)), b2, h3, h4⟩, h.ne, h.r, h.m, (h.kept.trans a2 (by simpa using h.r)).trans b3 (by simpa using h.m), tk_ok h.ok, Nat.le_trans tk_le h.len⟩

theorem Two.I64 {W w : World} {rb mb : Nat} {bs : List UInt8} {e : Int} (h : Two W rb mb bs e w) :
    ∃ P : World → Prop, Calls Try.prog 33 #[.pointer (some ⟨rb, 0, none⟩)] w (fun en w' => en = .returned (.int .i64 (wrap64 (num (tk bs e 8).1 : Nat))) ∧ P w') ∧
      ∀ w', P w' → Calls Try.prog 34 #[.pointer (some ⟨mb, 0, none⟩)] w' fun en w2 => en = .returned (.int .i64 (wrap64 (num (tk bs e 8).1 : Nat))) ∧ Two W rb mb (tk bs e 8).2.1 (tk bs e 8).2.2 w2 := by
  obtain ⟨G, G', h1, h2, h3, h4⟩ := h.ex
  refine ⟨fun w' => Rdr w' rb G (tk bs e 8).2.1 (tk bs e 8).2.2 ∧ Kept [rb] w w', RI64_any w rb G bs e h1, fun w' ⟨a1, a2⟩ => ?_⟩
  have h2' := h2.kept a2 (by simpa using fun e => h.ne e.symm) (fun k hk hm => h3 (by simp at hm; exact hm ▸ hk))
  refine (rRI64_any w' mb G' bs e h2' h.len).mono fun en w2 ⟨b1, b2, b3⟩ => ?_
  rw [tk_eq h.ok] at b1 b2
  exact ⟨b1, ⟨G, G', a1.kept b3 (by simpa using h.ne) (fun k hk hm => h4 (by simp at hm; exact hm ▸ hk)), b2, h3, h4⟩, h.ne, h.r, h.m, (h.kept.trans a2 (by simpa using h.r)).trans b3 (by simpa using h.m), tk_ok h.ok, Nat.le_trans tk_le h.len⟩


theorem Two.Raw {W w : World} {rb mb : Nat} {bs : List UInt8} {e n : Int} (h : Two W rb mb bs e w) :
    ∃ P : World → Value → Prop, Calls Try.prog 35 #[.pointer (some ⟨rb, 0, none⟩), .int .i64 n] w (fun en w' => ∃ A m c, en = .returned (.slice A m c) ∧ RdB w' (rowOf (.slice A m c)) (.slice A m c) (tk bs e n).1 ∧ Kept [] W w' ∧ P w' (.slice A m c)) ∧
      ∀ w' v, P w' v → Calls Try.prog 36 #[.pointer (some ⟨mb, 0, none⟩), .int .i64 n] w' fun en w2 => ∃ A m c, en = .returned (.slice A m c) ∧ RdB w2 (rowOf (.slice A m c)) (.slice A m c) (tk bs e n).1 ∧ RdB w2 (rowOf v) v (tk bs e n).1 ∧ Two W rb mb (tk bs e n).2.1 (tk bs e n).2.2 w2 := by
  obtain ⟨G, G', h1, h2, h3, h4⟩ := h.ex
  refine ⟨fun w' v => Rdr w' rb G (tk bs e n).2.1 (tk bs e n).2.2 ∧ Kept [rb] w w' ∧ RdB w' (rowOf v) v (tk bs e n).1 ∧ ∀ k ∈ rowOf v, w.heap.size ≤ k, (RRaw_any w rb G bs e n h1 h.len).mono fun en w' ⟨v, a1, a2, a3, a4, a5⟩ => ?_, fun w' v ⟨a1, a2, a3, a4⟩ => ?_⟩
  · have hr := RdB.of_own a2
    obtain ⟨A, c, rfl, _, _⟩ := a2.form
    exact ⟨A, _, c, a1, hr, h.kept.trans a5 (by simpa using h.r), a4, a5, hr, a3⟩
  · have h2' := h2.kept a2 (by simpa using fun e => h.ne e.symm) (fun k hk hm => h3 (by simp at hm; exact hm ▸ hk))
    have hmb : mb < w.heap.size := by obtain ⟨_, q, _⟩ := h2.ex; exact q.lt
    refine (rRaw_any w' mb G' bs e n h2' h.len).mono fun en w2 ⟨v2, b1, b2, b3, b4, b5⟩ => ?_
    rw [tk_eq h.ok] at b2 b4
    have hr := RdB.of_own b2
    obtain ⟨A, c, rfl, _, _⟩ := b2.form
    refine ⟨A, _, c, b1, hr, a3.kept b5 (fun k hk hm => ?_), ⟨⟨G, G', a1.kept b5 (by simpa using h.ne) (fun k hk hm => h4 (by simp at hm; exact hm ▸ hk)), b4, h3, h4⟩, h.ne, h.r, h.m, (h.kept.trans a2 (by simpa using h.r)).trans b5 (by simpa using h.m), tk_ok h.ok, Nat.le_trans tk_le h.len⟩⟩
    have := a4 k hk
    simp at hm
    omega

theorem Two.alloc {W w : World} {rb mb : Nat} {bs : List UInt8} {e : Int} (h : Two W rb mb bs e w) {w' : World} (hk : Kept [] w w') : Two W rb mb bs e w' := by
  obtain ⟨G, G', h1, h2, h3, h4⟩ := h.ex
  exact ⟨⟨G, G', h1.kept hk (by simp) (by simp), h2.kept hk (by simp) (by simp), h3, h4⟩, h.ne, h.r, h.m, h.kept.trans hk (by simp), h.ok, h.len⟩

set_option maxHeartbeats 1600000 in
set_option maxRecDepth 100000 in
theorem OctetReads_loop (W : World) (v0 v1 : Value) (b0 : List UInt8) (l : List CallD) (hb : RdB W (old W) v0 b0) (hb0 : b0.length ≤ 140737488355327) (h : ArrOf W (old W) 3 (CallDec (old W)) v1 l) :
    Calls Try.prog 5 #[v0, v1] W fun e W' => e = .returned (.bool true) ∧ Below W.heap.size W W' := by
  obtain ⟨A, m, c, rfl, h1, h2, h3, h4, h5⟩ := h
  obtain ⟨A0, m0, c0, rfl, g1, g2, g3, g4, g5, g6⟩ := hb
  have H1 := Lib.hid h1
  have H4 := Lib.hid h4
  have H5 := Lib.hid h5
  have G1 := Lib.hid g1
  have G4 := Lib.hid g4
  have G5 := Lib.hid g5
  have G6 := Lib.hid g6
  have hm0 : m0 ≤ 140737488355327 := by omega
  clear h1 h4 h5 g1 g4 g5 g6
  unfold maxLen at h3
  go_enter Try.func5, Try.ntmps5
  go_wp2_with fail
  refine (NewReader_any W A0 m0 c0 b0 G4.out G1.out G6.out (by omega)).mono ?_
  rintro e w1 ⟨rb, G, rfl, hr, hk1, hrb, hG⟩
  have hrd1 := G4.out.kept hk1 (by simp)
  have Hrd1 := Lib.hid hrd1
  have Hr := Lib.hid hr
  have Hk1 := Lib.hid hk1
  have HG := Lib.hid hG
  clear hr hk1 hG hrd1
  go_wp2_with (at_builtin
               refine wpList_app _ rfl (.const (.slice none 0 0)) (.tmp 11) 24 rfl elem_u8 (by rfl) (Own.nil w1 _ 1) (by rfl) Hrd1.out (by rw [u8s_len, G1.out]; omega) (u8s_one _) (by unfold maxLen; omega) (by omega) ?_
               intro v2 w2 ho2 hk2 hr2
               have ho2' : Own w2 5 1 v2 m0 (u8s b0) := by simpa using ho2
               have hk2' : Kept [] w1 w2 := hk2.mono (by simp [rowOf, Value.ownBlock])
               have hr2' : ∀ k ∈ rowOf v2, w1.heap.size ≤ k := fun k hk => (hr2 k hk).resolve_left (by simp [rowOf, Value.ownBlock])
               obtain ⟨A2, c2, rfl, _, _⟩ := ho2'.form
               have Ho2 := Lib.hid ho2'
               have Hk2 := Lib.hid hk2'
               have Hr2 := Lib.hid hr2'
               clear ho2 hk2 hr2 ho2' hk2' hr2')
  have htwo : Two W rb w2.heap.size b0 0 (w2.alloc (.cells #[.slice A2 m0 c2, .int .i64 0] 46)) := by
    have hka : Kept [] w2 (w2.alloc (.cells #[.slice A2 m0 c2, .int .i64 0] 46)) := (Kept.refl _ _).alloc _
    have hr2 := (Hr.out.kept Hk2.out (by simp) (by simp)).kept hka (by simp) (by simp)
    have hs1 := Hk1.out.size
    have hs2 := Hk2.out.size
    have hrlt : rb < w1.heap.size := by obtain ⟨_, q, _⟩ := Hr.out.ex; exact q.lt
    refine ⟨⟨G, rowOf (.slice A2 m0 c2), hr2, ⟨⟨_, Blk.new _ _ _, (RdB.of_own Ho2.out).kept hka (by simp)⟩, fun hm => ?_⟩, fun hm => ?_, fun hm => ?_⟩, by omega, hrb, by omega, (Hk1.out.trans Hk2.out (by simp)).trans hka (by simp), .inl rfl, by omega⟩
    · have := Ho2.out.lt _ hm; omega
    · have := Hr2.out _ hm; omega
    · have := (HG.out _ hm).2; omega
  have Htwo := Lib.hid htwo
  clear htwo
  go_loopg [7] m (fun g i wr => ∃ k : Nat, k ≤ m ∧ k ≤ 60 ∧ g = m - k ∧ i = .int .i64 k ∧ ∃ bs e, Two W rb w2.heap.size bs e wr)
  case atStart => exact ⟨0, by omega, by omega, by omega, rfl, _, _, Htwo.out⟩
  case round =>
    obtain ⟨k, hk, hk60, rfl, rfl, bs, e, hl⟩ := hrel
    have Hl := Lib.hid hl
    clear hl
    by_cases hlt : k < m
    · by_cases h60 : k < 60
      · obtain ⟨g, o, rfl, hg1, hg2, hg3⟩ := H5.out (by rintro rfl; have := H1.out; simp at this; omega)
        have hck : l[k]? = some (l[k]'(by rw [H1.out]; exact hlt)) := List.getElem?_eq_getElem _
        obtain ⟨cs, hcs, ⟨rv, rfl, hrd, hn0, hn1⟩, hcell⟩ := hg3 k _ hck
        generalize (l[k]'(by rw [H1.out]; exact hlt)) = cc at *
        have hkr := Hl.out.kept
        have hc0 := (hkr.cell (p := ⟨g, o + (k * 3 + 0), none⟩) hg2 (by simp)).trans (hcell 0 (by omega))
        have hc1 := (hkr.cell (p := ⟨g, o + (k * 3 + 1), none⟩) hg2 (by simp)).trans (hcell 1 (by omega))
        simp only [List.getElem?_cons_zero, List.getElem?_cons_succ, Nat.add_zero] at hc0 hc1
        rw [← Nat.add_assoc] at hc1
        have hgw : g < wr.heap.size := Nat.lt_of_lt_of_le hg2 hkr.size
        have Hcell : Hid (W.cell? ⟨g, o + k * 3 + 1, none⟩ = some (.int .i64 cc.n)) := by
          have := hcell 1 (by omega)
          simp only [List.getElem?_cons_zero, List.getElem?_cons_succ] at this
          rw [← Nat.add_assoc] at this
          exact this
        clear hcell hrd hg3 hck hcs hkr
        have hd5 : (cc.to == 0) = true ∨ ((cc.to == 0) = false ∧ (cc.to == 1) = true) ∨ ((cc.to == 0) = false ∧ (cc.to == 1) = false ∧ (cc.to == 2) = true) ∨ ((cc.to == 0) = false ∧ (cc.to == 1) = false ∧ (cc.to == 2) = false ∧ (cc.to == 3) = true) ∨ ((cc.to == 0) = false ∧ (cc.to == 1) = false ∧ (cc.to == 2) = false ∧ (cc.to == 3) = false) := by
          cases cc.to == 0 <;> cases cc.to == 1 <;> cases cc.to == 2 <;> cases cc.to == 3 <;> simp
        go_upto_block 2 with (fail)
        go_cut [8] (fun s8 wx => s8 = .bool true ∧ ∃ b' e', Two W rb w2.heap.size b' e' wx)
        case first =>
          rcases hd5 with te0 | ⟨te0, te1⟩ | ⟨te0, te1, te2⟩ | ⟨te0, te1, te2, te3⟩ | ⟨te0, te1, te2, te3⟩
          · obtain ⟨P, q1, q2⟩ := Hl.out.U8
            have Q1 := Lib.hid q1
            have Q2 := Lib.hid q2
            clear q1 q2
            go_wp2_with fail
            refine Q1.out.mono ?_
            rintro e2 w3 ⟨rfl, hp⟩
            have Hp := Lib.hid hp
            clear hp
            go_wp2_with fail
            refine (Q2.out _ Hp.out).mono ?_
            rintro e2 w4 ⟨rfl, ht⟩
            have Ht := Lib.hid ht
            clear ht
            go_wp2_with fail
            go_meet
            exact ⟨rfl, _, _, Ht.out⟩
          · obtain ⟨P, q1, q2⟩ := Hl.out.U16
            have Q1 := Lib.hid q1
            have Q2 := Lib.hid q2
            clear q1 q2
            go_wp2_with fail
            refine Q1.out.mono ?_
            rintro e2 w3 ⟨rfl, hp⟩
            have Hp := Lib.hid hp
            clear hp
            go_wp2_with fail
            refine (Q2.out _ Hp.out).mono ?_
            rintro e2 w4 ⟨rfl, ht⟩
            have Ht := Lib.hid ht
            clear ht
            go_wp2_with fail
            go_meet
            exact ⟨rfl, _, _, Ht.out⟩
          · obtain ⟨P, q1, q2⟩ := Hl.out.U32
            have Q1 := Lib.hid q1
            have Q2 := Lib.hid q2
            clear q1 q2
            go_wp2_with fail
            refine Q1.out.mono ?_
            rintro e2 w3 ⟨rfl, hp⟩
            have Hp := Lib.hid hp
            clear hp
            go_wp2_with fail
            refine (Q2.out _ Hp.out).mono ?_
            rintro e2 w4 ⟨rfl, ht⟩
            have Ht := Lib.hid ht
            clear ht
            go_wp2_with fail
            go_meet
            exact ⟨rfl, _, _, Ht.out⟩
          · obtain ⟨P, q1, q2⟩ := Hl.out.I64
            have Q1 := Lib.hid q1
            have Q2 := Lib.hid q2
            clear q1 q2
            go_wp2_with fail
            refine Q1.out.mono ?_
            rintro e2 w3 ⟨rfl, hp⟩
            have Hp := Lib.hid hp
            clear hp
            go_wp2_with fail
            refine (Q2.out _ Hp.out).mono ?_
            rintro e2 w4 ⟨rfl, ht⟩
            have Ht := Lib.hid ht
            clear ht
            go_wp2_with fail
            go_meet
            exact ⟨rfl, _, _, Ht.out⟩
          · obtain ⟨P, q1, q2⟩ := (Hl.out.alloc ((Kept.refl _ _).drew)).Raw (n := cc.n)
            have Q1 := Lib.hid q1
            have Q2 := Lib.hid q2
            clear q1 q2
            go_wp2
            go_region_with (first
              | (go_at_call 35
                 refine Q1.out.mono ?_
                 rintro e2 w3 ⟨A5, m5, c5, rfl, hr5, hk5, hp⟩
                 have hq5 := run_str hr5
                 have hc5 := (hk5.cell (p := ⟨g, o + k * 3 + 1, none⟩) hg2 (by simp)).trans Hcell.out
                 have Hp := Lib.hid hp
                 clear hp hr5 hk5)
              | (go_at_call 36
                 refine (Q2.out _ _ Hp.out).mono ?_
                 rintro e2 w4 ⟨A6, m6, c6, rfl, hr6, hr7, ht⟩
                 have hq6 := run_str hr6
                 have hq7 := run_str hr7
                 have hc6 := (ht.kept.cell (p := ⟨g, o + k * 3 + 1, none⟩) hg2 (by simp)).trans Hcell.out
                 have Ht := Lib.hid ht
                 clear ht hr6 hr7))
            all_goals (go_wp2_with fail; go_meet; exact ⟨rfl, _, _, Ht.out⟩)
        case rest =>
          obtain ⟨rfl, bs3, e3, ht3⟩ := hcut
          obtain ⟨G3, G4, r1, r2, -, -⟩ := ht3.ex
          obtain ⟨vm, hbk, A3, m3, c3, rfl, hm3, -, -, -, -, -⟩ := r2.ex
          have hd0 := hbk.cell 0
          simp only [List.getElem?_toArray, List.getElem?_cons_zero] at hd0
          subst hm3
          have R1 := Lib.hid r1
          have R2 := Lib.hid r2
          have Ht3 := Lib.hid ht3
          clear r1 r2 hbk ht3
          go_wp2
          go_quiet ((first
            | (go_at_call 37; exact Calls.quiet_of_same ((Left_any _ _ _ _ _ (R1.out.drewN _)).mono fun _ _ ⟨a, b⟩ => ⟨a, b.symm⟩))
            | (go_at_call 38; exact Calls.quiet_of_same ((End_any _ _ _ _ _ (R1.out.drewN _)).mono fun _ _ ⟨a, b⟩ => ⟨a, b.symm⟩))
            | (go_at_call 39; exact Calls.quiet_of_same ((rEnd_any _ _ _ _ _ (R2.out.drewN _)).mono fun _ _ ⟨a, b⟩ => ⟨a, b.symm⟩))))
          go_wp2
          go_roundg (m - (k + 1))
          case measure => omega
          case rel => exact ⟨k + 1, by omega, by omega, rfl, by go_num, bs3, e3, Ht3.out.alloc ((Kept.refl _ _).drewN _)⟩
      · obtain ⟨G3, G4, r1, r2, -, -⟩ := Hl.out.ex
        have R1 := Lib.hid r1
        have R2 := Lib.hid r2
        clear r1 r2
        go_wp2_with (first
          | (go_at_call 38; refine (End_any _ _ _ _ _ R1.out).mono ?_; rintro e5 w5 ⟨rfl, rfl⟩)
          | (go_at_call 39; refine (rEnd_any _ _ _ _ _ R2.out).mono ?_; rintro e5 w5 ⟨rfl, rfl⟩)
          | (go_at_call 25; refine (awake2_any _).mono ?_; rintro e5 w5 ⟨rfl, g4⟩; have G5 := Lib.hid g4; clear g4))
        go_ret
        exact ⟨rfl, (Hl.out.kept.trans G5.out (by simp)).below (Nat.le_refl _) (by simp)⟩
    · obtain ⟨G3, G4, r1, r2, -, -⟩ := Hl.out.ex
      have R1 := Lib.hid r1
      have R2 := Lib.hid r2
      clear r1 r2
      go_wp2_with (first
        | (go_at_call 38; refine (End_any _ _ _ _ _ R1.out).mono ?_; rintro e5 w5 ⟨rfl, rfl⟩)
        | (go_at_call 39; refine (rEnd_any _ _ _ _ _ R2.out).mono ?_; rintro e5 w5 ⟨rfl, rfl⟩)
        | (go_at_call 25; refine (awake2_any _).mono ?_; rintro e5 w5 ⟨rfl, g4⟩; have G5 := Lib.hid g4; clear g4))
      go_ret
      exact ⟨rfl, (Hl.out.kept.trans G5.out (by simp)).below (Nat.le_refl _) (by simp)⟩

theorem OctetReads_walk {H : Type} {enc : TypeId × Value → H} (W : World) (base : Nat) (v0 : Value) (d0 : DataW H) (p0 : List MemPlace) (v1 : Value) (d1 : DataW H) (p1 : List MemPlace)
    (hv0 : Value.okWide Try.prog W .any base 24 v0) (hv1 : Value.okWide Try.prog W .any base 22 v1)
    (h0 : DataW.Trod enc Try.prog W 0 (fun _ => true) true 24 v0 d0 p0) (h1 : DataW.Trod enc Try.prog W 0 (fun _ => true) true 22 v1 d1 p1)
    (hsz : (DataW.weightsEach Try.prog (Try.f5.params.toList ++ Rows.octetReadsSpec.plain.varTypes Try.prog) ([d0, d1] ++ [])).all (· ≤ reachBytes) = true) :
    Calls Try.prog 5 #[v0, v1] W fun e W' => e = .returned (.bool true) ∧ Below W.heap.size W W' := by
  obtain ⟨l, hl, hs⟩ := open_calls hv1 h1
  obtain ⟨a0, len, cap, rfl⟩ := okWide_slice Try.underlying24 hv0
  obtain ⟨fuel, hf⟩ := h0
  obtain ⟨v, bs, e, hb, _, hw⟩ := open_bytes Try.underlying24 hf
  have e : v = .slice a0 len cap := by simpa [Value.cells] using e.symm
  subst e
  refine OctetReads_loop W _ _ bs l hb ?_ hl
  have h := hw (fun n hn => by
    have := List.all_eq_true.1 hsz n (DataW.weights_mem_each (j := 0) (t := 24) (by rw [Try.params5]; rfl) rfl n hn)
    simpa using this)
  have : reachBytes ≤ 140737488355327 := by decide
  omega
end Go.Proofs.Yticjcmjodnedjaa
