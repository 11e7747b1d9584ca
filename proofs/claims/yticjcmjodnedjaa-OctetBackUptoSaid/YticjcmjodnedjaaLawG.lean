/-
  The walk of OctetBack.
-/
import Derived.Test.YticjcmjodnedjaaLawF
namespace Go.Proofs.Yticjcmjodnedjaa
open Go.RowKit Go.ChangeShapes Go.WideShapes
set_option linter.unusedVariables false

/-- what the loop of OctetBack keeps -/
structure LoopB (W : World) (lb wb nb : Nat) (v0 : Value) (bs : List UInt8) (k : Nat) (w : World) : Prop where
  wr : LoopV W wb bs w
  l : Blk w lb 22 #[v0]
  n : Blk w nb 3 #[.int .i64 k]
theorem LoopB.incr {W : World} {lb wb nb : Nat} {v0 : Value} {bs : List UInt8} {k : Nat} {w : World} (h : LoopB W lb wb nb v0 bs k w) (hW : W.heap.size ≤ nb) (o : Obj) :
    LoopB W lb wb nb v0 bs (k + 1) ((w.setCell ⟨nb, 0, none⟩ (.int .i64 ((k : Int) + 1))).alloc o) := by
  obtain ⟨v, a1, a2, a3, a4⟩ := h.wr
  have hk : Kept [nb] w (w.setCell ⟨nb, 0, none⟩ (.int .i64 ((k : Int) + 1))) := (Kept.refl _ _).setCell (.inl (by simp)) _
  have e1 := h.n.ne a1.blk (by decide)
  have e2 := a1.own.ne_blk h.n (by decide)
  have e3 := h.l.ne h.n (by decide)
  refine ⟨⟨v, (a1.kept hk (by simpa using e1.symm) (fun j hj => by simp; rintro rfl; exact e2 hj)).kept (S := []) ((Kept.refl _ _).alloc _) (by simp) (by simp), a2, a3, (a4.trans hk (by simpa using hW)).alloc o⟩, (h.l.kept hk (by simpa using e3)).alloc o, ?_⟩
  have := h.n.set 0 (.int .i64 ((k : Int) + 1))
  exact (show Blk (w.setCell ⟨nb, 0, none⟩ (.int .i64 ((k : Int) + 1))) nb 3 #[.int .i64 ((k + 1 : Nat) : Int)] from this).alloc o
theorem LoopB.write {W : World} {lb wb nb : Nat} {v0 v : Value} {bs bs' : List UInt8} {k : Nat} {w w' : World} (h : LoopB W lb wb nb v0 bs k w) (hw : Wr w wb v bs) (hv : ∀ k ∈ rowOf v, W.heap.size ≤ k) (h2 : WrTo w wb v bs' w') : LoopB W lb wb nb v0 bs' k w' := by
  obtain ⟨_, _, a2, _, a4⟩ := h.wr
  obtain ⟨q1, q2⟩ := LoopV.step (bs := bs) a2 hv a4 h2
  obtain ⟨_, _, q3, _⟩ := h2
  refine ⟨q1, h.l.kept q3 (fun hm => ?_), h.n.kept q3 (fun hm => ?_)⟩
  · rcases List.mem_cons.1 hm with hm | hm
    · exact h.l.ne hw.blk (by decide) hm
    · exact hw.own.ne_blk h.l (by decide) hm
  · rcases List.mem_cons.1 hm with hm | hm
    · exact h.n.ne hw.blk (by decide) hm
    · exact hw.own.ne_blk h.n (by decide) hm

theorem LoopB.start (W : World) (v0 : Value) : LoopB W W.heap.size (W.heap.size + 1) (W.heap.size + 1 + 1) v0 (encs []) 0 (((W.alloc (.cells #[v0] 22)).alloc (.cells #[.slice none 0 0] 26)).alloc (.cells #[.int .i64 0] 3)) := by
  have k1 : Kept [] W (W.alloc (.cells #[v0] 22)) := (Kept.refl _ _).alloc _
  have e1 : (W.alloc (.cells #[v0] 22)).heap.size = W.heap.size + 1 := by simp
  have w1 := Wr.new (W.alloc (.cells #[v0] 22))
  have e2 : ((W.alloc (.cells #[v0] 22)).alloc (.cells #[.slice none 0 0] 26)).heap.size = W.heap.size + 1 + 1 := by simp
  have n1 := Blk.new ((W.alloc (.cells #[v0] 22)).alloc (.cells #[.slice none 0 0] 26)) 3 #[.int .i64 0]
  rw [e1] at w1
  rw [e2] at n1
  exact ⟨⟨_, w1.kept (S := []) ((Kept.refl _ _).alloc _) (by simp) (by simp), by omega, by simp [rowOf, Value.ownBlock], (k1.alloc _).alloc _⟩, ((Blk.new _ _ _).alloc _).alloc _, n1⟩
theorem RdB.take {w : World} {G : List Nat} {A : Option Addr} {m c : Nat} {bs : List UInt8} (h : RdB w G (.slice A m c) bs) (k : Nat) (hk : k ≤ m) : RdB w G (.slice A k c) (bs.take k) := by
  obtain ⟨A', m', c', e, h2, h3, h4, h5, h6, h7⟩ := h
  injection e with e1 e2 e3
  subst e1 e2 e3
  exact ⟨A, k, c, rfl, by rw [List.length_take]; omega, by omega, h4, h5.take k, fun i hi hne => h6 i hi (ne_take hne), fun hA => by have := h7 hA; omega⟩

theorem encC_0 {c : CallD} (h0 : (c.to == 0) = true) : beK (nat64 c.n) 1 1 = encC c := by
  simp only [beq_iff_eq] at h0; simp [encC, h0]
theorem encC_1 {c : CallD} (h0 : (c.to == 0) = false) (h1 : (c.to == 1) = true) : beK (nat64 c.n) 2 2 = encC c := by
  simp only [beq_iff_eq] at h1; simp [encC, h1]
theorem encC_2 {c : CallD} (h0 : (c.to == 0) = false) (h1 : (c.to == 1) = false) (h2 : (c.to == 2) = true) : beK (nat64 c.n % 4294967296) 4 4 = encC c := by
  simp only [beq_iff_eq] at h2; simp [encC, h2]
theorem encC_3 {c : CallD} (h0 : (c.to == 0) = false) (h1 : (c.to == 1) = false) (h2 : (c.to == 2) = false) (h3 : (c.to == 3) = true) : beK (nat64 c.n) 8 8 = encC c := by
  simp only [beq_iff_eq] at h3; simp [encC, h3]
theorem encC_4 {c : CallD} (h0 : (c.to == 0) = false) (h1 : (c.to == 1) = false) (h2 : (c.to == 2) = false) (h3 : (c.to == 3) = false) : c.raw = encC c := by
  simp only [beq_eq_false_iff_ne] at h0 h1 h2 h3; simp [encC, h0, h1, h2, h3]

set_option maxHeartbeats 3200000 in
set_option maxRecDepth 100000 in
theorem OctetBack_loop (W : World) (v0 : Value) (l : List CallD) (h : ArrOf W (old W) 3 (CallDec (old W)) v0 l) (hs : (l.map fun c => c.raw.length + 1).sum ≤ 1048576) :
    Calls Try.prog 7 #[v0] W fun e W' => e = .returned (.bool true) ∧ Below W.heap.size W W' := by
  have Harr := Lib.hid h
  obtain ⟨A, m, c, rfl, h1, h2, h3, h4, h5⟩ := h
  have H1 := Lib.hid h1
  have H4 := Lib.hid h4
  have H5 := Lib.hid h5
  have Hs := Lib.hid hs
  clear h1 h4 h5 hs
  unfold maxLen at h3
  go_enter Try.func7, Try.ntmps7
  go_wp2
  go_loopg [5] m (fun g i wr => ∃ k : Nat, k ≤ m ∧ k ≤ 40 ∧ g = m - k ∧ i = .int .i64 k ∧ LoopB W W.heap.size (W.heap.size + 1) (W.heap.size + 1 + 1) (.slice A m c) (encs (l.take k)) k wr)
  case atStart =>
    exact ⟨0, by omega, by omega, by omega, rfl, LoopB.start W _⟩
  case round =>
    obtain ⟨k, hk, hk6, rfl, rfl, hl⟩ := hrel
    have Hl := Lib.hid hl
    have hbnd : (encs (l.take k)).length ≤ 1048576 + 480 := by
      have a1 := encs_len (l.take k)
      have a2 := take_sum l k
      have a3 := Hs.out
      rw [List.length_take] at a1
      omega
    have hlc := hl.l.cell 0
    have hnc := hl.n.cell 0
    have hnf := hl.n.frozen 0
    have hnl := hl.n.lt
    have hll := hl.l.lt
    simp only [List.getElem?_toArray, List.getElem?_cons_zero] at hlc hnc
    clear hl
    by_cases hlt : k < m
    · by_cases h60 : k < 40
      · obtain ⟨g, o, rfl, hg1, hg2, hg3⟩ := H5.out (by rintro rfl; have := H1.out; simp at this; omega)
        have hck : l[k]? = some (l[k]'(by rw [H1.out]; exact hlt)) := List.getElem?_eq_getElem _
        obtain ⟨cs, hcs, ⟨rv, rfl, hrd, hn0, hn1⟩, hcell⟩ := hg3 k _ hck
        have Hsn := Lib.hid (encs_snoc l k _ hck)
        have hraw : (l[k]'(by rw [H1.out]; exact hlt)).raw.length ≤ 1048576 := by
          have a1 : ((l[k]'(by rw [H1.out]; exact hlt)).raw.length + 1) ≤ (l.map fun c => c.raw.length + 1).sum := le_sum _ _ (List.mem_map.2 ⟨_, List.getElem_mem _, rfl⟩)
          have := Hs.out
          omega
        generalize (l[k]'(by rw [H1.out]; exact hlt)) = cc at *
        obtain ⟨-, -, -, -, hkw⟩ := Hl.out.wr
        have hc0 := (hkw.cell (p := ⟨g, o + (k * 3 + 0), none⟩) hg2 (by simp)).trans (hcell 0 (by omega))
        have hc1 := (hkw.cell (p := ⟨g, o + (k * 3 + 1), none⟩) hg2 (by simp)).trans (hcell 1 (by omega))
        have hc2 := (hkw.cell (p := ⟨g, o + (k * 3 + 2), none⟩) hg2 (by simp)).trans (hcell 2 (by omega))
        simp only [List.getElem?_cons_zero, List.getElem?_cons_succ, Nat.add_zero] at hc0 hc1 hc2
        rw [← Nat.add_assoc] at hc1 hc2
        have hgw : g < wr.heap.size := Nat.lt_of_lt_of_le hg2 hkw.size
        obtain ⟨rA, rm, rc, rfl, hrm, hrmc, hrcm, -⟩ := id hrd
        have hin := Hl.out.incr (by omega) (.cells #[.int .i64 cc.to, .int .i64 cc.n, .slice rA rm rc] 28)
        obtain ⟨v, hw, -, hv2, hkk⟩ := hin.wr
        have hrd2 := hrd.kept hkk (by simp)
        have Hin := Lib.hid hin
        have Hw := Lib.hid hw
        have Hv2 := Lib.hid hv2
        have Hrd := Lib.hid hrd2.rd
        have Hrm := Lib.hid hrm
        have hrm2 : rm ≤ 1048576 := by omega
        clear hcell hrd hg3 hck hcs hrm hkw hin hw hv2 hkk hrd2
        have hd5 : (cc.to == 0) = true ∨ ((cc.to == 0) = false ∧ (cc.to == 1) = true) ∨ ((cc.to == 0) = false ∧ (cc.to == 1) = false ∧ (cc.to == 2) = true) ∨ ((cc.to == 0) = false ∧ (cc.to == 1) = false ∧ (cc.to == 2) = false ∧ (cc.to == 3) = true) ∨ ((cc.to == 0) = false ∧ (cc.to == 1) = false ∧ (cc.to == 2) = false ∧ (cc.to == 3) = false) := by
          cases cc.to == 0 <;> cases cc.to == 1 <;> cases cc.to == 2 <;> cases cc.to == 3 <;> simp
        have hu : IntKind.u32.wrap cc.n = ((nat64 cc.n % 4294967296 : Nat) : Int) := by rw [IntKind.wrap_u32]; have := nat64_cast cc.n; omega
        have huu : nat64 cc.n % 4294967296 < 4294967296 := by omega
        have Hen : Hid (∀ bs3 w3, WrTo ((wr.setCell ⟨W.heap.size + 1 + 1, 0, none⟩ (.int .i64 ((k : Int) + 1))).alloc (.cells #[.int .i64 cc.to, .int .i64 cc.n, .slice rA rm rc] 28)) (W.heap.size + 1) v (encs (l.take k) ++ bs3) w3 → bs3 = encC cc → LoopB W W.heap.size (W.heap.size + 1) (W.heap.size + 1 + 1) (.slice (some ⟨g, o, none⟩) m c) (encs (l.take (k + 1))) (k + 1) w3) := by
          intro bs3 w3 q1 q2
          rw [Hsn.out, ← q2]
          exact Hin.out.write Hw.out Hv2.out q1
        rcases hd5 with te0 | ⟨te0, te1⟩ | ⟨te0, te1, te2⟩ | ⟨te0, te1, te2, te3⟩ | ⟨te0, te1, te2, te3⟩
        all_goals
          go_wp2_with (first
            | (go_at_call 15; refine (WU8_any _ _ _ _ Hw.out _ (by omega)).mono ?_; rintro e w3 ⟨rfl, h3⟩; have Hq := Lib.hid (Hen.out _ _ h3 (encC_0 te0)); clear h3)
            | (go_at_call 16; refine (WU16_any _ _ _ _ Hw.out _ (by omega)).mono ?_; rintro e w3 ⟨rfl, h3⟩; have Hq := Lib.hid (Hen.out _ _ h3 (encC_1 te0 te1)); clear h3)
            | (go_at_call 18; refine (WU32_any _ _ _ _ Hw.out (nat64 cc.n % 4294967296) (by omega) (by omega)).mono ?_; rintro e w3 ⟨rfl, h3⟩; have Hq := Lib.hid (Hen.out _ _ h3 (encC_2 te0 te1 te2)); clear h3)
            | (go_at_call 20; refine (WI64_any _ _ _ _ Hw.out _ (by omega)).mono ?_; rintro e w3 ⟨rfl, h3⟩; have Hq := Lib.hid (Hen.out _ _ h3 (encC_3 te0 te1 te2 te3)); clear h3)
            | (go_at_call 22; refine (WRaw_any _ _ _ _ cc.raw Hw.out _ _ _ Hrd.out Hrm.out (by omega)).mono ?_; rintro e w3 ⟨rfl, h3⟩; have Hq := Lib.hid (Hen.out _ _ h3 (encC_4 te0 te1 te2 te3)); clear h3))
          go_roundg (m - (k + 1))
          case measure => omega
          case rel => exact ⟨k + 1, by omega, by omega, rfl, by go_num, Hq.out⟩
      · skip
        obtain ⟨v, hw, -, hv2, hkw⟩ := Hl.out.wr
        have Hw := Lib.hid hw
        have Hkw := Lib.hid hkw
        clear hw hv2 hkw
        go_wp2_with fail
        refine (Bytes_any _ _ _ _ Hw.out (by omega)).mono ?_
        rintro e w2 ⟨v2, rfl, g1, g2, g3⟩
        obtain ⟨A2, c2, rfl, hn2, hc2, -, -, -⟩ := g1.slice
        have hrB := RdB.of_own g1
        have hk2 : Kept [] W w2 := Hkw.out.trans g2 (by simp)
        have hlb2 := Hl.out.l.kept g2 (by simp)
        have hnb2 := Hl.out.n.kept g2 (by simp)
        have harr2 : ArrOf w2 (old W) 3 (CallDec (old W)) _ l := Harr.out.kept hk2 (by simp) (fun cs a h => h.kept hk2 (by simp))
        have hkl : k ≤ l.length := by rw [H1.out]; exact hk
        have hraw2 : ∀ x ∈ l, x.raw.length ≤ 140737488355327 := fun x hx => by
          have a1 : (x.raw.length + 1) ≤ (l.map fun c => c.raw.length + 1).sum := le_sum _ _ (List.mem_map.2 ⟨_, hx, rfl⟩)
          have := Hs.out
          omega
        have Hall : Hid (∀ (w' : World) (A' : Option Addr) (m' c' : Nat) (G' : List Nat) (bs : List UInt8), (∃ S, Kept S w2 w' ∧ ∀ i ∈ S, i ∈ rowOf (.slice A2 (encs (l.take k)).length c2)) → RdB w' G' (.slice A' m' c') bs → m' ≤ 140737488355327 →
            Calls Try.prog 40 #[.slice A' m' c', .pointer (some ⟨W.heap.size + 1 + 1, 0, none⟩), .pointer (some ⟨W.heap.size, 0, none⟩)] w' fun e w'' =>
              ∃ ok : Bool, e = .returned (.tuple #[.bool ok, .int .i64 (endOf (rds (l.take k) bs 0).1 (rds (l.take k) bs 0).2)]) ∧ (bs = encs (l.take k) → ok = true) ∧ Kept [] w' w'') := by
          intro w' A' m' c' G' bs ⟨S, hS, hS2⟩ hb hm'
          have hd : ∀ i ∈ S, W.heap.size ≤ i := fun i hi => by
            have h8 := g3 i (hS2 i hi)
            have h9 := Hkw.out.size
            omega
          refine read_any w' _ _ k (old W) G' A' m' c' _ l bs (hnb2.kept hS (fun hm => g1.ne_blk hnb2 (by decide) (hS2 _ hm))) (hlb2.kept hS (fun hm => g1.ne_blk hlb2 (by decide) (hS2 _ hm))) (harr2.kept hS (old_ne hd) (fun cs a h => h.kept hS (old_ne hd))) hkl hk6 hb hm' hraw2 (fun i hi => ?_)
          have := List.mem_range.1 hi
          have := hk2.size
          have := hS.size
          omega
        have Hk2 := Lib.hid hk2
        have HrB := Lib.hid hrB
        have Hg1 := Lib.hid g1
        have Hg3 : Hid (∀ i ∈ rowOf (.slice A2 (encs (l.take k)).length c2), W.heap.size ≤ i) := fun i hi => by
          have h8 := g3 i hi
          have h9 := Hkw.out.size
          omega
        have Hf0 : Hid (endOf (rds (l.take k) (encs (l.take k)) 0).1 (rds (l.take k) (encs (l.take k)) 0).2 = 0) := by
          have := rds_full (l.take k) []
          rw [List.append_nil] at this
          rw [this]
          exact rfl
        have Hf1 : Hid (∀ j, j < (encs (l.take k)).length → endOf (rds (l.take k) ((encs (l.take k)).take j) 0).1 (rds (l.take k) ((encs (l.take k)).take j) 0).2 = 2) := fun j hj => by
          rw [rds_short (l.take k) ((encs (l.take k)).take j) ((encs (l.take k)).drop j) (List.take_append_drop _ _).symm (by intro h0; rw [List.drop_eq_nil_iff] at h0; omega)]
          rfl
        have Hf2 : Hid (endOf (rds (l.take k) (encs (l.take k) ++ [0]) 0).1 (rds (l.take k) (encs (l.take k) ++ [0]) 0).2 = 3) := by
          rw [rds_full]
          exact rfl
        clear hk2 hrB hlb2 hnb2 harr2 hkl hraw2 g1 g2 g3
        generalize encs (l.take k) = bs at *
        go_wp2_with fail
        refine (Hall.out w2 _ _ _ _ bs ⟨[], Kept.refl _ _, by simp⟩ HrB.out (by omega)).mono ?_
        rintro e w3 ⟨ok, rfl, hok, hk3⟩
        obtain rfl : ok = true := hok rfl
        rw [Hf0.out]
        have Hk3 := Lib.hid hk3
        clear hok hk3
        by_cases hz : bs.length = 0
        · have hz2 : ((bs.length : Int) == 0) = true := by simp [hz]
          clear hz
          go_wp2_with (go_at_call 25; refine (awake2_any _).mono ?_; rintro e w5 ⟨rfl, g4⟩; have G5 := Lib.hid g4; clear g4)
          go_ret
          exact ⟨rfl, ((Hk2.out.trans Hk3.out (by simp)).trans G5.out (by simp)).below (Nat.le_refl _) (by simp)⟩
        · have hz2 : ((bs.length : Int) == 0) = false := by simp; exact fun h => hz (by rw [h]; rfl)
          have hz3 : 1 ≤ bs.length := by omega
          clear hz
          go_wp2_with fail
          refine (Hall.out w3 _ _ _ _ (bs.take (bs.length - 1)) ⟨[], Hk3.out, by simp⟩ ((HrB.out.kept Hk3.out (by simp)).take _ (by omega)) (by omega)).mono ?_
          rintro e w4 ⟨ok4, rfl, -, hk4⟩
          rw [Hf1.out _ (by omega)]
          have Hk4 := Lib.hid (Hk3.out.trans hk4 (by simp))
          have Hg4 := Lib.hid (Hg1.out.kept Hk4.out (by simp))
          clear hk4
          go_wp2_with (at_builtin
                       refine wpList_app _ rfl (.tmp 95) (.tmp 96) 24 rfl elem_u8 (by rfl) (Hg4.out.kept ((Kept.refl [] _).alloc _) (by simp)) (by rfl) (Rd.one w4 (.int .u8 0) 5) rfl (by simp [Value.oneCell']) (by unfold maxLen; omega) (by omega) ?_
                       intro v5 w5 ho5 hk5 hr5
                       have hk25 : Kept (rowOf (.slice A2 bs.length c2)) w2 w5 := ((Hk4.out.alloc _).mono (by simp)).trans hk5 (fun i hi => .inl hi)
                       have he5 : u8s bs ++ [Value.int .u8 0] = u8s (bs ++ [0]) := by simp [u8s]
                       rw [he5] at ho5
                       obtain ⟨A5, n5, c5, rfl⟩ := ho5.form'
                       have Hr5 := Lib.hid (RdB.of_own ho5)
                       have Hk25 := Lib.hid hk25
                       clear ho5 hk5 hr5 he5 hk25)
          refine (Hall.out w5 _ _ _ _ (bs ++ [0]) ⟨_, Hk25.out, fun i h => h⟩ Hr5.out (by have := Hr5.out.len; simp at this; omega)).mono ?_
          rintro e w6 ⟨ok6, rfl, -, hk6⟩
          rw [Hf2.out]
          have Hk6 := Lib.hid hk6
          clear hk6
          go_wp2_with (go_at_call 25; refine (awake2_any _).mono ?_; rintro e w7 ⟨rfl, g4⟩; have G7 := Lib.hid g4; clear g4)
          go_ret
          exact ⟨rfl, (((Hk2.out.trans Hk25.out (fun i hi => .inr (Hg3.out i hi))).trans Hk6.out (by simp)).trans G7.out (by simp)).below (Nat.le_refl _) (by simp)⟩
    · skip
      obtain ⟨v, hw, -, hv2, hkw⟩ := Hl.out.wr
      have Hw := Lib.hid hw
      have Hkw := Lib.hid hkw
      clear hw hv2 hkw
      go_wp2_with fail
      refine (Bytes_any _ _ _ _ Hw.out (by omega)).mono ?_
      rintro e w2 ⟨v2, rfl, g1, g2, g3⟩
      obtain ⟨A2, c2, rfl, hn2, hc2, -, -, -⟩ := g1.slice
      have hrB := RdB.of_own g1
      have hk2 : Kept [] W w2 := Hkw.out.trans g2 (by simp)
      have hlb2 := Hl.out.l.kept g2 (by simp)
      have hnb2 := Hl.out.n.kept g2 (by simp)
      have harr2 : ArrOf w2 (old W) 3 (CallDec (old W)) _ l := Harr.out.kept hk2 (by simp) (fun cs a h => h.kept hk2 (by simp))
      have hkl : k ≤ l.length := by rw [H1.out]; exact hk
      have hraw2 : ∀ x ∈ l, x.raw.length ≤ 140737488355327 := fun x hx => by
        have a1 : (x.raw.length + 1) ≤ (l.map fun c => c.raw.length + 1).sum := le_sum _ _ (List.mem_map.2 ⟨_, hx, rfl⟩)
        have := Hs.out
        omega
      have Hall : Hid (∀ (w' : World) (A' : Option Addr) (m' c' : Nat) (G' : List Nat) (bs : List UInt8), (∃ S, Kept S w2 w' ∧ ∀ i ∈ S, i ∈ rowOf (.slice A2 (encs (l.take k)).length c2)) → RdB w' G' (.slice A' m' c') bs → m' ≤ 140737488355327 →
          Calls Try.prog 40 #[.slice A' m' c', .pointer (some ⟨W.heap.size + 1 + 1, 0, none⟩), .pointer (some ⟨W.heap.size, 0, none⟩)] w' fun e w'' =>
            ∃ ok : Bool, e = .returned (.tuple #[.bool ok, .int .i64 (endOf (rds (l.take k) bs 0).1 (rds (l.take k) bs 0).2)]) ∧ (bs = encs (l.take k) → ok = true) ∧ Kept [] w' w'') := by
        intro w' A' m' c' G' bs ⟨S, hS, hS2⟩ hb hm'
        have hd : ∀ i ∈ S, W.heap.size ≤ i := fun i hi => by
          have h8 := g3 i (hS2 i hi)
          have h9 := Hkw.out.size
          omega
        refine read_any w' _ _ k (old W) G' A' m' c' _ l bs (hnb2.kept hS (fun hm => g1.ne_blk hnb2 (by decide) (hS2 _ hm))) (hlb2.kept hS (fun hm => g1.ne_blk hlb2 (by decide) (hS2 _ hm))) (harr2.kept hS (old_ne hd) (fun cs a h => h.kept hS (old_ne hd))) hkl hk6 hb hm' hraw2 (fun i hi => ?_)
        have := List.mem_range.1 hi
        have := hk2.size
        have := hS.size
        omega
      have Hk2 := Lib.hid hk2
      have HrB := Lib.hid hrB
      have Hg1 := Lib.hid g1
      have Hg3 : Hid (∀ i ∈ rowOf (.slice A2 (encs (l.take k)).length c2), W.heap.size ≤ i) := fun i hi => by
        have h8 := g3 i hi
        have h9 := Hkw.out.size
        omega
      have Hf0 : Hid (endOf (rds (l.take k) (encs (l.take k)) 0).1 (rds (l.take k) (encs (l.take k)) 0).2 = 0) := by
        have := rds_full (l.take k) []
        rw [List.append_nil] at this
        rw [this]
        exact rfl
      have Hf1 : Hid (∀ j, j < (encs (l.take k)).length → endOf (rds (l.take k) ((encs (l.take k)).take j) 0).1 (rds (l.take k) ((encs (l.take k)).take j) 0).2 = 2) := fun j hj => by
        rw [rds_short (l.take k) ((encs (l.take k)).take j) ((encs (l.take k)).drop j) (List.take_append_drop _ _).symm (by intro h0; rw [List.drop_eq_nil_iff] at h0; omega)]
        rfl
      have Hf2 : Hid (endOf (rds (l.take k) (encs (l.take k) ++ [0]) 0).1 (rds (l.take k) (encs (l.take k) ++ [0]) 0).2 = 3) := by
        rw [rds_full]
        exact rfl
      clear hk2 hrB hlb2 hnb2 harr2 hkl hraw2 g1 g2 g3
      generalize encs (l.take k) = bs at *
      go_wp2_with fail
      refine (Hall.out w2 _ _ _ _ bs ⟨[], Kept.refl _ _, by simp⟩ HrB.out (by omega)).mono ?_
      rintro e w3 ⟨ok, rfl, hok, hk3⟩
      obtain rfl : ok = true := hok rfl
      rw [Hf0.out]
      have Hk3 := Lib.hid hk3
      clear hok hk3
      by_cases hz : bs.length = 0
      · have hz2 : ((bs.length : Int) == 0) = true := by simp [hz]
        clear hz
        go_wp2_with (go_at_call 25; refine (awake2_any _).mono ?_; rintro e w5 ⟨rfl, g4⟩; have G5 := Lib.hid g4; clear g4)
        go_ret
        exact ⟨rfl, ((Hk2.out.trans Hk3.out (by simp)).trans G5.out (by simp)).below (Nat.le_refl _) (by simp)⟩
      · have hz2 : ((bs.length : Int) == 0) = false := by simp; exact fun h => hz (by rw [h]; rfl)
        have hz3 : 1 ≤ bs.length := by omega
        clear hz
        go_wp2_with fail
        refine (Hall.out w3 _ _ _ _ (bs.take (bs.length - 1)) ⟨[], Hk3.out, by simp⟩ ((HrB.out.kept Hk3.out (by simp)).take _ (by omega)) (by omega)).mono ?_
        rintro e w4 ⟨ok4, rfl, -, hk4⟩
        rw [Hf1.out _ (by omega)]
        have Hk4 := Lib.hid (Hk3.out.trans hk4 (by simp))
        have Hg4 := Lib.hid (Hg1.out.kept Hk4.out (by simp))
        clear hk4
        go_wp2_with (at_builtin
                     refine wpList_app _ rfl (.tmp 95) (.tmp 96) 24 rfl elem_u8 (by rfl) (Hg4.out.kept ((Kept.refl [] _).alloc _) (by simp)) (by rfl) (Rd.one w4 (.int .u8 0) 5) rfl (by simp [Value.oneCell']) (by unfold maxLen; omega) (by omega) ?_
                     intro v5 w5 ho5 hk5 hr5
                     have hk25 : Kept (rowOf (.slice A2 bs.length c2)) w2 w5 := ((Hk4.out.alloc _).mono (by simp)).trans hk5 (fun i hi => .inl hi)
                     have he5 : u8s bs ++ [Value.int .u8 0] = u8s (bs ++ [0]) := by simp [u8s]
                     rw [he5] at ho5
                     obtain ⟨A5, n5, c5, rfl⟩ := ho5.form'
                     have Hr5 := Lib.hid (RdB.of_own ho5)
                     have Hk25 := Lib.hid hk25
                     clear ho5 hk5 hr5 he5 hk25)
        refine (Hall.out w5 _ _ _ _ (bs ++ [0]) ⟨_, Hk25.out, fun i h => h⟩ Hr5.out (by have := Hr5.out.len; simp at this; omega)).mono ?_
        rintro e w6 ⟨ok6, rfl, -, hk6⟩
        rw [Hf2.out]
        have Hk6 := Lib.hid hk6
        clear hk6
        go_wp2_with (go_at_call 25; refine (awake2_any _).mono ?_; rintro e w7 ⟨rfl, g4⟩; have G7 := Lib.hid g4; clear g4)
        go_ret
        exact ⟨rfl, (((Hk2.out.trans Hk25.out (fun i hi => .inr (Hg3.out i hi))).trans Hk6.out (by simp)).trans G7.out (by simp)).below (Nat.le_refl _) (by simp)⟩

theorem OctetBack_walk {H : Type} {enc : TypeId × Value → H} (W : World) (base : Nat) (v0 : Value) (d0 : DataW H) (p0 : List MemPlace)
    (hv0 : Value.okWide Try.prog W .any base 22 v0)
    (h0 : DataW.Trod enc Try.prog W 0 (fun _ => true) true 22 v0 d0 p0) (hk : Rows.uptoBulkAll ([d0] ++ []) ≤ 1048576) :
    Calls Try.prog 7 #[v0] W fun e W' => e = .returned (.bool true) ∧ Below W.heap.size W W' := by
  obtain ⟨l, hl, hs⟩ := open_calls hv0 h0
  refine OctetBack_loop W v0 l hl ?_
  simp only [List.append_nil, Rows.uptoBulkAll] at hk
  omega
end Go.Proofs.Yticjcmjodnedjaa
