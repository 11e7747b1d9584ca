/-
  The walk of OctetWrites.
-/
import Derived.Test.YticjcmjodnedjaaLawA
import Derived.Test.YticjcmjodnedjaaStr
import Derived.Deep.RegionWith
namespace Go.Proofs.Yticjcmjodnedjaa
open Go.RowKit Go.ChangeShapes Go.WideShapes
set_option linter.unusedVariables false

/-- a call as bytes -/
def encC (c : CallD) : List UInt8 :=
  if c.to = 0 then beK (nat64 c.n) 1 1 else if c.to = 1 then beK (nat64 c.n) 2 2 else if c.to = 2 then beK (nat64 c.n % 4294967296) 4 4 else if c.to = 3 then beK (nat64 c.n) 8 8 else c.raw
theorem encC_len (c : CallD) : (encC c).length ≤ c.raw.length + 8 := by
  unfold encC; repeat' split
  all_goals first | (rw [beK_len]; omega) | omega
def encs (l : List CallD) : List UInt8 := l.flatMap encC
theorem encs_snoc (l : List CallD) (k : Nat) (c : CallD) (h : l[k]? = some c) : encs (l.take (k + 1)) = encs (l.take k) ++ encC c := by
  obtain ⟨hk, rfl⟩ := List.getElem?_eq_some_iff.1 h
  rw [List.take_succ_eq_append_getElem hk]
  unfold encs
  rw [List.flatMap_append, List.flatMap_cons, List.flatMap_nil, List.append_nil]
theorem encs_len (l : List CallD) : (encs l).length ≤ (l.map fun c => c.raw.length + 1).sum + 8 * l.length := by
  induction l with
  | nil => simp [encs]
  | cons c l ih =>
    have := encC_len c
    simp only [encs, List.flatMap_cons, List.length_append, List.map_cons, List.sum_cons, List.length_cons] at *
    omega
theorem take_sum (l : List CallD) (k : Nat) : ((l.take k).map fun c => c.raw.length + 1).sum ≤ (l.map fun c => c.raw.length + 1).sum := by
  have : l = l.take k ++ l.drop k := (List.take_append_drop k l).symm
  conv => rhs; rw [this]
  rw [List.map_append, List.sum_append]; omega

/-- where a round of the law stands: the writer at b holds bs, its row is v; 'want' holds bw; the call lies at cb -/
structure St (W : World) (b cb : Nat) (c : CallD) (rv : Value) (bs bw : List UInt8) (v want : Value) (w : World) : Prop where
  wr : Wr w b v bs
  own : Own w 5 1 want bw.length (u8s bw)
  dis : ∀ k ∈ rowOf want, k ∉ rowOf v
  bnew : W.heap.size ≤ b
  vnew : ∀ k ∈ rowOf v, W.heap.size ≤ k
  wnew : ∀ k ∈ rowOf want, W.heap.size ≤ k
  kept : Kept [] W w
  blk : Blk w cb 28 #[.int .i64 c.to, .int .i64 c.n, rv]
  rd : RdB w (old W) rv c.raw
theorem St.bw_ne {W : World} {b cb : Nat} {c : CallD} {rv : Value} {bs bw : List UInt8} {v want : Value} {w : World} (h : St W b cb c rv bs bw v want w) : b ∉ rowOf want := h.own.ne_blk h.wr.blk (by decide)
theorem old_ne {W : World} {S : List Nat} (h : ∀ k ∈ S, W.heap.size ≤ k) : ∀ k ∈ old W, k ∉ S := fun k hk hS => by
  have := h k hS; have := List.mem_range.1 hk; omega
theorem St.write {W : World} {b cb : Nat} {c : CallD} {rv : Value} {bs bw bs' : List UInt8} {v want : Value} {w w' : World} (h : St W b cb c rv bs bw v want w) (h2 : WrTo w b v bs' w') : ∃ v', St W b cb c rv bs' bw v' want w' := by
  obtain ⟨v', a1, a2, a3⟩ := h2
  have hS : ∀ k ∈ b :: rowOf v, W.heap.size ≤ k := by
    intro k hk
    rcases List.mem_cons.1 hk with rfl | hk
    · exact h.bnew
    · exact h.vnew k hk
  refine ⟨v', a1, h.own.kept a2 (fun k hk hm => ?_), fun k hk hm => ?_, h.bnew, fun k hk => ?_, h.wnew, h.kept.trans a2 (fun i hi => .inr (hS i hi)), h.blk.kept a2 (fun hm => ?_), h.rd.kept a2 (old_ne hS)⟩
  · rcases List.mem_cons.1 hm with rfl | hm
    · exact h.bw_ne hk
    · exact h.dis k hk hm
  · rcases a3 k hm with h3 | h3
    · exact h.dis k hk h3
    · have := h.own.lt k hk; omega
  · rcases a3 k hk with h3 | h3
    · exact h.vnew k h3
    · have := h.kept.size; omega
  · rcases List.mem_cons.1 hm with hm | hm
    · exact h.blk.ne h.wr.blk (by decide) hm
    · exact h.wr.own.ne_blk h.blk (by decide) hm
theorem St.new {W : World} {b cb : Nat} {c : CallD} {rv : Value} {bs bw : List UInt8} {v want : Value} {w w' : World} (h : St W b cb c rv bs bw v want w) (hk : Kept [] w w') : St W b cb c rv bs bw v want w' :=
  ⟨h.wr.kept hk (by simp) (by simp), h.own.kept hk (by simp), h.dis, h.bnew, h.vnew, h.wnew, h.kept.trans hk (by simp), h.blk.kept hk (by simp), h.rd.kept hk (by simp)⟩
theorem St.app {W : World} {b cb n : Nat} {c : CallD} {rv : Value} {bs bw cs : List UInt8} {v want want' : Value} {w w' : World} {xs : List Value} (h : St W b cb c rv bs bw v want w) (ho : Own w' 5 1 want' n (u8s bw ++ xs)) (hx : xs = u8s cs) (hk : Kept (rowOf want) w w')
    (hr : ∀ k ∈ rowOf want', k ∈ rowOf want ∨ w.heap.size ≤ k) : St W b cb c rv bs (bw ++ cs) v want' w' := by
  refine ⟨h.wr.kept hk h.bw_ne (fun k hk' hm => h.dis k hm hk'), ?_, fun k hk' hm => ?_, h.bnew, h.vnew, fun k hk' => ?_, h.kept.trans hk (fun i hi => .inr (h.wnew i hi)), h.blk.kept hk (h.own.ne_blk h.blk (by decide)), h.rd.kept hk (old_ne h.wnew)⟩
  · have hn : n = (bw ++ cs).length := by have := ho.1; rw [hx] at this; simp [u8s] at this; simp; omega
    rw [u8s_app, ← hn, ← hx]; exact ho
  · rcases hr k hk' with h3 | h3
    · exact h.dis k h3 hm
    · have := h.wr.own.lt k hm; omega
  · rcases hr k hk' with h3 | h3
    · exact h.wnew k h3
    · have := h.kept.size; omega

/-- what the loop keeps: the writer at b and the slice 'want' hold the same bytes, in blocks apart from each other, all of the call's own -/
def LoopW (W : World) (b : Nat) (bs : List UInt8) (want : Value) (wr : World) : Prop :=
  ∃ v, Wr wr b v bs ∧ Own wr 5 1 want bs.length (u8s bs) ∧ (∀ k ∈ rowOf want, k ∉ rowOf v) ∧ W.heap.size ≤ b ∧ (∀ k ∈ rowOf v, W.heap.size ≤ k) ∧ (∀ k ∈ rowOf want, W.heap.size ≤ k) ∧ Kept [] W wr
theorem le_sum (a : Nat) (l : List Nat) (h : a ∈ l) : a ≤ l.sum := by
  induction l with
  | nil => cases h
  | cons x r ih =>
    rw [List.sum_cons]
    rcases List.mem_cons.1 h with rfl | h
    · omega
    · have := ih h; omega
theorem LoopW.enter {W : World} {b : Nat} {bs : List UInt8} {want : Value} {wr : World} {c : CallD} {rv : Value} (h : LoopW W b bs want wr) (hr : RdB W (old W) rv c.raw) :
    ∃ v, St W b wr.heap.size c rv bs bs v want (wr.alloc (.cells #[.int .i64 c.to, .int .i64 c.n, rv] 28)) := by
  obtain ⟨v, a1, a2, a3, a4, a5, a6, a7⟩ := h
  have hk : Kept [] wr (wr.alloc (.cells #[.int .i64 c.to, .int .i64 c.n, rv] 28)) := (Kept.refl _ _).alloc _
  exact ⟨v, a1.kept hk (by simp) (by simp), a2.kept hk (by simp), a3, a4, a5, a6, a7.trans hk (by simp), Blk.new _ _ _, (hr.kept a7 (by simp)).kept hk (by simp)⟩
theorem St.leave {W : World} {b cb : Nat} {c : CallD} {rv : Value} {bs : List UInt8} {v want : Value} {w : World} (h : St W b cb c rv bs bs v want w) : LoopW W b bs want w :=
  ⟨v, h.wr, h.own, h.dis, h.bnew, h.vnew, h.wnew, h.kept⟩

set_option maxHeartbeats 1600000 in
set_option maxRecDepth 100000 in
theorem OctetWrites_loop (W : World) (v0 : Value) (l : List CallD) (h : ArrOf W (old W) 3 (CallDec (old W)) v0 l) (hs : (l.map fun c => c.raw.length + 1).sum ≤ 1048576) :
    Calls Try.prog 3 #[v0] W fun e W' => e = .returned (.bool true) ∧ Below W.heap.size W W' := by
  obtain ⟨A, m, c, rfl, h1, h2, h3, h4, h5⟩ := h
  have H1 := Lib.hid h1
  have H4 := Lib.hid h4
  have H5 := Lib.hid h5
  have Hs := Lib.hid hs
  clear h1 h4 h5 hs
  unfold maxLen at h3
  go_enter Try.func3, Try.ntmps3
  go_wp2
  go_loopg [4, 5] m (fun g want i wr => ∃ k : Nat, k ≤ m ∧ k ≤ 60 ∧ g = m - k ∧ i = .int .i64 k ∧ LoopW W W.heap.size (encs (l.take k)) want wr)
  case atStart => exact ⟨0, by omega, by omega, by omega, rfl, _, Wr.new W, Own.nil _ _ _, by simp [rowOf, Value.ownBlock], by omega, by simp [rowOf, Value.ownBlock], by simp [rowOf, Value.ownBlock], (Kept.refl [] W).alloc _⟩
  case round =>
    obtain ⟨k, hk, hk6, rfl, rfl, hl⟩ := hrel
    have Hl := Lib.hid hl
    clear hl
    have hbnd : (encs (l.take k)).length ≤ 1048576 + 480 := by
      have a1 := encs_len (l.take k)
      have a2 := take_sum l k
      have a3 := Hs.out
      rw [List.length_take] at a1
      omega
    by_cases hlt : k < m
    · by_cases h60 : k < 60
      · obtain ⟨g, o, rfl, hg1, hg2, hg3⟩ := H5.out (by rintro rfl; have := H1.out; simp at this; omega)
        have hck : l[k]? = some (l[k]'(by rw [H1.out]; exact hlt)) := List.getElem?_eq_getElem _
        obtain ⟨cs, hcs, ⟨rv, rfl, hrd, hn0, hn1⟩, hcell⟩ := hg3 k _ hck
        have Hsn := Lib.hid (encs_snoc l k _ hck)
        have hraw : (l[k]'(by rw [H1.out]; exact hlt)).raw.length ≤ 1048576 := by
          have a1 : ((l[k]'(by rw [H1.out]; exact hlt)).raw.length + 1) ≤ (l.map fun c => c.raw.length + 1).sum := le_sum _ _ (List.mem_map.2 ⟨_, List.getElem_mem _, rfl⟩)
          have := Hs.out
          omega
        generalize (l[k]'(by rw [H1.out]; exact hlt)) = c at *
        obtain ⟨z, hst⟩ := Hl.out.enter (c := c) hrd
        obtain ⟨v, -, -, -, -, -, -, hkw⟩ := Hl.out
        have hc0 := (hkw.cell (p := ⟨g, o + (k * 3 + 0), none⟩) hg2 (by simp)).trans (hcell 0 (by omega))
        have hc1 := (hkw.cell (p := ⟨g, o + (k * 3 + 1), none⟩) hg2 (by simp)).trans (hcell 1 (by omega))
        have hc2 := (hkw.cell (p := ⟨g, o + (k * 3 + 2), none⟩) hg2 (by simp)).trans (hcell 2 (by omega))
        simp only [List.getElem?_cons_zero, List.getElem?_cons_succ, Nat.add_zero] at hc0 hc1 hc2
        rw [← Nat.add_assoc] at hc1 hc2
        have hgw : g < wr.heap.size := Nat.lt_of_lt_of_le hg2 hkw.size
        obtain ⟨rA, rm, rc, rfl, hrm, hrmc, hrcm, -⟩ := id hrd
        have Hst := Lib.hid hst
        have Hrm := Lib.hid hrm
        clear hst hkw hcell hrd hg3 hck hcs hrm
        by_cases t0 : c.to = 0
        · have he : encC c = beK (nat64 c.n) 1 1 := by simp [encC, t0]
          have He := Lib.hid he
          have te0 : (c.to == 0) = true := by simpa using t0
          clear he t0
          go_wp2_with fail
          refine (WU8_any _ _ _ _ Hst.out.wr c.n (by omega)).mono ?_
          rintro e w2 ⟨rfl, h2⟩
          obtain ⟨v2, hst2⟩ := Hst.out.write h2
          have hd1 := hst2.blk.cell 1
          have hd2 := hst2.blk.cell 2
          simp only [List.getElem?_toArray, List.getElem?_cons_zero, List.getElem?_cons_succ] at hd1 hd2
          have Hst2 := Lib.hid hst2
          clear h2 hst2
          go_wp2_with (at_builtin
                       refine wpList_app _ rfl (.tmp 39) (.tmp 43) 24 rfl elem_u8 (by rfl) (Hst2.out.own.alloc _) (by rfl) (Rd.one _ _ _) rfl (by simp [Value.oneCell']) (by have := Hrm.out; unfold maxLen; omega) (by have := Hrm.out; omega) ?_
                       intro v4 w4 ho4 hk4 hr4
                       have hst4 := (Hst2.out.new ((Kept.refl _ _).alloc _)).app ho4 (cs := encC c) (by rw [He.out]; exact (be1 _).symm) hk4 hr4
                       have hst5 : St W W.heap.size wr.heap.size c (.slice rA rm rc) (encs (l.take (k + 1))) (encs (l.take (k + 1))) v2 v4 w4 := by rw [Hsn.out]; rw [← He.out] at hst4; exact hst4
                       obtain ⟨A4, c4, rfl, hf1, hf2⟩ := hst5.own.form
                       have Hst5 := Lib.hid hst5
                       clear ho4 hk4 hr4 hst4 hst5)
          refine (Len_any _ _ _ _ Hst5.out.wr).mono ?_
          rintro e w5 ⟨rfl, rfl⟩
          go_wp2
          go_roundg (m - (k + 1))
          case measure => omega
          case rel => exact ⟨k + 1, by omega, by omega, rfl, by go_num, Hst5.out.leave⟩
        · skip
          by_cases t1 : c.to = 1
          · have he : encC c = beK (nat64 c.n) 2 2 := by simp [encC, t0, t1]
            have He := Lib.hid he
            have te0 : (c.to == 0) = false := by simpa using t0
            have te1 : (c.to == 1) = true := by simpa using t1
            clear he t0 t1
            go_wp2_with fail
            refine (WU16_any _ _ _ _ Hst.out.wr c.n (by omega)).mono ?_
            rintro e w2 ⟨rfl, h2⟩
            obtain ⟨v2, hst2⟩ := Hst.out.write h2
            have hd1 := hst2.blk.cell 1
            have hd2 := hst2.blk.cell 2
            simp only [List.getElem?_toArray, List.getElem?_cons_zero, List.getElem?_cons_succ] at hd1 hd2
            have Hst2 := Lib.hid hst2
            clear h2 hst2
            go_wp2_with fail
            refine (rU16_any w2 c.n).mono ?_
            rintro e w3 ⟨vn, rfl, hn1, hn2, hn3⟩
            have Hst3 := Lib.hid (Hst2.out.new hn2)
            obtain ⟨An, cn, rfl, -, -, hrn, -, -⟩ := hn1.slice
            have Hrn := Lib.hid hrn
            clear hn1 hn2 hn3 hrn
            go_wp2_with (at_builtin
                         refine wpList_app _ rfl (.tmp 51) (.tmp 54) 24 rfl elem_u8 (by rfl) Hst3.out.own (by rfl) Hrn.out (by simp [u8s, beK_len]) (u8s_one _) (by have := Hrm.out; unfold maxLen; omega) (by have := Hrm.out; omega) ?_
                         intro v4 w4 ho4 hk4 hr4
                         have hst4 := Hst3.out.app ho4 (cs := encC c) (by rw [He.out]) hk4 hr4
                         have hst5 : St W W.heap.size wr.heap.size c (.slice rA rm rc) (encs (l.take (k + 1))) (encs (l.take (k + 1))) v2 v4 w4 := by rw [Hsn.out]; rw [← He.out] at hst4; exact hst4
                         obtain ⟨A4, c4, rfl, hf1, hf2⟩ := hst5.own.form
                         have Hst5 := Lib.hid hst5
                         clear ho4 hk4 hr4 hst4 hst5)
            refine (Len_any _ _ _ _ Hst5.out.wr).mono ?_
            rintro e w5 ⟨rfl, rfl⟩
            go_wp2
            go_roundg (m - (k + 1))
            case measure => omega
            case rel => exact ⟨k + 1, by omega, by omega, rfl, by go_num, Hst5.out.leave⟩
          · skip
            by_cases t2 : c.to = 2
            · have he : encC c = beK (nat64 c.n % 4294967296) 4 4 := by simp [encC, t0, t1, t2]
              have He := Lib.hid he
              have te0 : (c.to == 0) = false := by simpa using t0
              have te1 : (c.to == 1) = false := by simpa using t1
              have te2 : (c.to == 2) = true := by simpa using t2
              clear he t0 t1 t2
              have hu : IntKind.u32.wrap c.n = ((nat64 c.n % 4294967296 : Nat) : Int) := by rw [IntKind.wrap_u32]; have := nat64_cast c.n; omega
              have huu : nat64 c.n % 4294967296 < 4294967296 := by omega
              go_wp2_with fail
              refine (WU32_any _ _ _ _ Hst.out.wr (nat64 c.n % 4294967296) (by omega) (by omega)).mono ?_
              rintro e w2 ⟨rfl, h2⟩
              obtain ⟨v2, hst2⟩ := Hst.out.write h2
              have hd1 := hst2.blk.cell 1
              have hd2 := hst2.blk.cell 2
              simp only [List.getElem?_toArray, List.getElem?_cons_zero, List.getElem?_cons_succ] at hd1 hd2
              have Hst2 := Lib.hid hst2
              clear h2 hst2
              go_wp2_with fail
              refine (rU32_any w2 _ (nat64 c.n % 4294967296) (by omega) (by omega)).mono ?_
              rintro e w3 ⟨vn, rfl, hn1, hn2, hn3⟩
              have Hst3 := Lib.hid (Hst2.out.new hn2)
              obtain ⟨An, cn, rfl, -, -, hrn, -, -⟩ := hn1.slice
              have Hrn := Lib.hid hrn
              clear hn1 hn2 hn3 hrn
              go_wp2_with (at_builtin
                           refine wpList_app _ rfl (.tmp 63) (.tmp 67) 24 rfl elem_u8 (by rfl) Hst3.out.own (by rfl) Hrn.out (by simp [u8s, beK_len]) (u8s_one _) (by have := Hrm.out; unfold maxLen; omega) (by have := Hrm.out; omega) ?_
                           intro v4 w4 ho4 hk4 hr4
                           have hst4 := Hst3.out.app ho4 (cs := encC c) (by rw [He.out]) hk4 hr4
                           have hst5 : St W W.heap.size wr.heap.size c (.slice rA rm rc) (encs (l.take (k + 1))) (encs (l.take (k + 1))) v2 v4 w4 := by rw [Hsn.out]; rw [← He.out] at hst4; exact hst4
                           obtain ⟨A4, c4, rfl, hf1, hf2⟩ := hst5.own.form
                           have Hst5 := Lib.hid hst5
                           clear ho4 hk4 hr4 hst4 hst5)
              refine (Len_any _ _ _ _ Hst5.out.wr).mono ?_
              rintro e w5 ⟨rfl, rfl⟩
              go_wp2
              go_roundg (m - (k + 1))
              case measure => omega
              case rel => exact ⟨k + 1, by omega, by omega, rfl, by go_num, Hst5.out.leave⟩
            · skip
              by_cases t3 : c.to = 3
              · have he : encC c = beK (nat64 c.n) 8 8 := by simp [encC, t0, t1, t2, t3]
                have He := Lib.hid he
                have te0 : (c.to == 0) = false := by simpa using t0
                have te1 : (c.to == 1) = false := by simpa using t1
                have te2 : (c.to == 2) = false := by simpa using t2
                have te3 : (c.to == 3) = true := by simpa using t3
                clear he t0 t1 t2 t3
                go_wp2_with fail
                refine (WI64_any _ _ _ _ Hst.out.wr c.n (by omega)).mono ?_
                rintro e w2 ⟨rfl, h2⟩
                obtain ⟨v2, hst2⟩ := Hst.out.write h2
                have hd1 := hst2.blk.cell 1
                have hd2 := hst2.blk.cell 2
                simp only [List.getElem?_toArray, List.getElem?_cons_zero, List.getElem?_cons_succ] at hd1 hd2
                have Hst2 := Lib.hid hst2
                clear h2 hst2
                go_wp2_with fail
                refine (rI64_any w2 c.n).mono ?_
                rintro e w3 ⟨vn, rfl, hn1, hn2, hn3⟩
                have Hst3 := Lib.hid (Hst2.out.new hn2)
                obtain ⟨An, cn, rfl, -, -, hrn, -, -⟩ := hn1.slice
                have Hrn := Lib.hid hrn
                clear hn1 hn2 hn3 hrn
                go_wp2_with (at_builtin
                             refine wpList_app _ rfl (.tmp 75) (.tmp 78) 24 rfl elem_u8 (by rfl) Hst3.out.own (by rfl) Hrn.out (by simp [u8s, beK_len]) (u8s_one _) (by have := Hrm.out; unfold maxLen; omega) (by have := Hrm.out; omega) ?_
                             intro v4 w4 ho4 hk4 hr4
                             have hst4 := Hst3.out.app ho4 (cs := encC c) (by rw [He.out]) hk4 hr4
                             have hst5 : St W W.heap.size wr.heap.size c (.slice rA rm rc) (encs (l.take (k + 1))) (encs (l.take (k + 1))) v2 v4 w4 := by rw [Hsn.out]; rw [← He.out] at hst4; exact hst4
                             obtain ⟨A4, c4, rfl, hf1, hf2⟩ := hst5.own.form
                             have Hst5 := Lib.hid hst5
                             clear ho4 hk4 hr4 hst4 hst5)
                refine (Len_any _ _ _ _ Hst5.out.wr).mono ?_
                rintro e w5 ⟨rfl, rfl⟩
                go_wp2
                go_roundg (m - (k + 1))
                case measure => omega
                case rel => exact ⟨k + 1, by omega, by omega, rfl, by go_num, Hst5.out.leave⟩
              · skip
                have he : encC c = c.raw := by simp [encC, t0, t1, t2, t3]
                have He := Lib.hid he
                have te0 : (c.to == 0) = false := by simpa using t0
                have te1 : (c.to == 1) = false := by simpa using t1
                have te2 : (c.to == 2) = false := by simpa using t2
                have te3 : (c.to == 3) = false := by simpa using t3
                clear he t0 t1 t2 t3
                go_wp2_with fail
                have Hrd' := Lib.hid Hst.out.rd.rd
                refine (WRaw_any _ _ _ _ c.raw Hst.out.wr _ _ _ Hrd'.out Hrm.out (by have := Hrm.out; omega)).mono ?_
                rintro e w2 ⟨rfl, h2⟩
                obtain ⟨v2, hst2⟩ := Hst.out.write h2
                have hd1 := hst2.blk.cell 1
                have hd2 := hst2.blk.cell 2
                simp only [List.getElem?_toArray, List.getElem?_cons_zero, List.getElem?_cons_succ] at hd1 hd2
                have Hst2 := Lib.hid hst2
                clear h2 hst2
                have Hrn := Lib.hid Hst2.out.rd.rd
                go_wp2_with (at_builtin
                             refine wpList_app _ rfl (.tmp 29) (.tmp 31) 24 rfl elem_u8 (by rfl) Hst2.out.own (by rfl) Hrn.out (by rw [u8s_len, Hrm.out]; omega) (u8s_one _) (by have := Hrm.out; unfold maxLen; omega) (by have := Hrm.out; omega) ?_
                             intro v4 w4 ho4 hk4 hr4
                             have hst4 := Hst2.out.app ho4 (cs := encC c) (by rw [He.out]) hk4 hr4
                             have hst5 : St W W.heap.size wr.heap.size c (.slice rA rm rc) (encs (l.take (k + 1))) (encs (l.take (k + 1))) v2 v4 w4 := by rw [Hsn.out]; rw [← He.out] at hst4; exact hst4
                             obtain ⟨A4, c4, rfl, hf1, hf2⟩ := hst5.own.form
                             have Hst5 := Lib.hid hst5
                             clear ho4 hk4 hr4 hst4 hst5)
                refine (Len_any _ _ _ _ Hst5.out.wr).mono ?_
                rintro e w5 ⟨rfl, rfl⟩
                go_wp2
                go_roundg (m - (k + 1))
                case measure => omega
                case rel => exact ⟨k + 1, by omega, by omega, rfl, by go_num, Hst5.out.leave⟩
      · obtain ⟨v, x1, x2, x3, x4, x5, x6, x7⟩ := Hl.out
        obtain ⟨Aw, cw, rfl, y1, y2⟩ := x2.form
        have Hx := Lib.hid (And.intro x1 (And.intro x3 (And.intro x5 (And.intro x6 x7))))
        have q1 : (convert 24 9 (.slice Aw (encs (l.take k)).length cw)).run Try.prog wr.drew = .ok (.string (strOf (encs (l.take k)))) wr.drew := run_str (RdB.of_own (w := wr.drew) x2)
        have Q1 := Lib.hid (RdB.of_own (w := wr.drew) x2)
        have Ho := Lib.hid x2
        generalize encs (l.take k) = bs at *
        clear x1 x2 x3 x4 x5 x6 x7 y1 y2
        go_wp2
        go_region_with (first
          | (go_at_call 24
             refine (Bytes_any _ _ _ _ (Hx.out.1.kept ((Kept.refl [] wr).drew) (by simp) (by simp)) (by omega)).mono ?_
             rintro e w2 ⟨v2, rfl, g1, g2, g3⟩
             obtain ⟨A2, c2, rfl, _, _⟩ := g1.form
             have q2 : (convert 24 9 (.slice Aw bs.length cw)).run Try.prog w2 = .ok (.string (strOf bs)) w2 := run_str (Q1.out.kept g2 (by simp))
             have q3 : (convert 24 9 (.slice A2 bs.length c2)).run Try.prog w2 = .ok (.string (strOf bs)) w2 := run_str (RdB.of_own g1)
             have G2 := Lib.hid g2
             clear g1 g2 g3)
          | (go_at_call 25; refine (awake2_any _).mono ?_; rintro e w5 ⟨rfl, g4⟩; have G4 := Lib.hid g4; clear g4))
        all_goals go_wp2
        all_goals go_ret
        all_goals exact ⟨rfl, ((Hx.out.2.2.2.2.trans (((Kept.refl [] wr).drew).trans G2.out (by simp)) (by simp)).trans G4.out (by simp)).below (Nat.le_refl _) (by simp)⟩
    · obtain ⟨v, x1, x2, x3, x4, x5, x6, x7⟩ := Hl.out
      obtain ⟨Aw, cw, rfl, y1, y2⟩ := x2.form
      have Hx := Lib.hid (And.intro x1 (And.intro x3 (And.intro x5 (And.intro x6 x7))))
      have q1 : (convert 24 9 (.slice Aw (encs (l.take k)).length cw)).run Try.prog wr.drew = .ok (.string (strOf (encs (l.take k)))) wr.drew := run_str (RdB.of_own (w := wr.drew) x2)
      have Q1 := Lib.hid (RdB.of_own (w := wr.drew) x2)
      have Ho := Lib.hid x2
      generalize encs (l.take k) = bs at *
      clear x1 x2 x3 x4 x5 x6 x7 y1 y2
      go_wp2
      go_region_with (first
        | (go_at_call 24
           refine (Bytes_any _ _ _ _ (Hx.out.1.kept ((Kept.refl [] wr).drew) (by simp) (by simp)) (by omega)).mono ?_
           rintro e w2 ⟨v2, rfl, g1, g2, g3⟩
           obtain ⟨A2, c2, rfl, _, _⟩ := g1.form
           have q2 : (convert 24 9 (.slice Aw bs.length cw)).run Try.prog w2 = .ok (.string (strOf bs)) w2 := run_str (Q1.out.kept g2 (by simp))
           have q3 : (convert 24 9 (.slice A2 bs.length c2)).run Try.prog w2 = .ok (.string (strOf bs)) w2 := run_str (RdB.of_own g1)
           have G2 := Lib.hid g2
           clear g1 g2 g3)
        | (go_at_call 25; refine (awake2_any _).mono ?_; rintro e w5 ⟨rfl, g4⟩; have G4 := Lib.hid g4; clear g4))
      all_goals go_wp2
      all_goals go_ret
      all_goals exact ⟨rfl, ((Hx.out.2.2.2.2.trans (((Kept.refl [] wr).drew).trans G2.out (by simp)) (by simp)).trans G4.out (by simp)).below (Nat.le_refl _) (by simp)⟩

theorem OctetWrites_walk {H : Type} {enc : TypeId × Value → H} (W : World) (base : Nat) (v0 : Value) (d0 : DataW H) (p0 : List MemPlace)
    (hv0 : Value.okWide Try.prog W .any base 22 v0)
    (h0 : DataW.Trod enc Try.prog W 0 (fun _ => true) true 22 v0 d0 p0) (hk : Rows.uptoBulkAll ([d0] ++ []) ≤ 1048576) :
    Calls Try.prog 3 #[v0] W fun e W' => e = .returned (.bool true) ∧ Below W.heap.size W W' := by
  obtain ⟨l, hl, hs⟩ := open_calls hv0 h0
  refine OctetWrites_loop W v0 l hl ?_
  simp only [List.append_nil, Rows.uptoBulkAll] at hk
  omega
end Go.Proofs.Yticjcmjodnedjaa
