
/-
  The contract of record.Decode.
-/
import Derived.Test.YtogdpfjbclnlnaaRecJ
import Derived.Test.YtogdpfjbclnlnaaFrameS
namespace Go.Proofs.Ytogdpfjbclnlnaa
open Go.RowKit Go.ChangeShapes Go.WideShapes Go.Deep
set_option linter.unusedVariables false

def decE (f : FrameD) : Int := if verB f.ver = true then (if goodR 17 f.kind f.ver f.body = true then 0 else 3) else 10
def decR (f : FrameD) : RecD := if verB f.ver = true ∧ goodR 17 f.kind f.ver f.body = true then (rdR 17 f.kind f.ver (some f.body)).1 else default
theorem rdR_backs (cap : Nat) (k v : Int) (o : Option (List UInt8)) : (rdR cap k v o).1.backs.length ≤ cap := by
  unfold rdR
  repeat' split
  all_goals first | (simp [default]; done) | (simp only [rdBs_len]; omega)
theorem end_iff (o : Option (List UInt8)) : endOf (o.getD []) (erO o) = 0 ↔ o = some [] := by
  cases o with
  | none => simp [endOf, erO]
  | some bs => cases bs <;> simp [endOf, erO]
theorem BkV.far {W w w' : World} {g : Nat} {t : TypeId} {cs : Array Value} {sl : Value} {l : List BackD} (h : BkV W w sl l) (hk : Kept [g] w w') (hb : Blk w g t cs) (ht : 70 ≠ t) (hg : W.heap.size ≤ g) : BkV W w' sl l := by
  obtain ⟨css, G, hx⟩ := h
  exact ⟨css, [], hx.own.kept hk (fun k hk' hm => by simp at hm; subst hm; exact hx.own.ne_blk hb ht hk'), hx.new, ⟨hx.decs.1, hx.decs.2⟩, by simp, hx.keptW.trans hk (fun k hk' => .inr (by simp at hk'; omega))⟩
theorem BkV.small {W w : World} {A : Option Addr} {m c : Nat} {l : List BackD} (h : BkV W w (.slice A m c) l) (hl : l.length ≤ 1000000) : ∃ G, SmallB w G A m c l := by
  obtain ⟨G, ha, hG⟩ := LV.arr BkOk h
  have := BkArr.len ha
  exact ⟨G, ha, hG, by omega⟩
theorem goodR_end (cap : Nat) (k v : Int) (bs : List UInt8) : goodR cap k v bs = ((rdR cap k v (some bs)).2.1 && (decide (endOf ((rdR cap k v (some bs)).2.2.getD []) (erO (rdR cap k v (some bs)).2.2) = 0) && mayR (rdR cap k v (some bs)).1)) := by
  unfold goodR
  congr 2
  rw [Bool.eq_iff_iff]
  simp [end_iff]
theorem BkV.form {W w : World} {sl : Value} {l : List BackD} (h : BkV W w sl l) : ∃ A m c, sl = .slice A m c := by obtain ⟨_, _, h⟩ := h; exact Own.form' h.own

theorem Read_any {W w : World} {b : Nat} {bs : List UInt8} {k v : Int} (hv : verB v = true) (h : RWo W b (some bs) w) :
    Calls Try.prog 61 #[.pointer (some ⟨b, 0, none⟩), .int .i64 k, .int .i64 v] w fun e w' => ∃ sl, e = .returned (.tuple #[.agg #[.int .i64 (rdR 17 k v (some bs)).1.kind, .int .u32 ((rdR 17 k v (some bs)).1.tup.src.toNat : Nat), .int .u32 ((rdR 17 k v (some bs)).1.tup.dst.toNat : Nat), .int .i64 (rdR 17 k v (some bs)).1.tup.proto, .int .i64 (rdR 17 k v (some bs)).1.tup.sport, .int .i64 (rdR 17 k v (some bs)).1.tup.dport, .int .i64 (rdR 17 k v (some bs)).1.fb, .int .i64 (rdR 17 k v (some bs)).1.fg, .int .i64 (rdR 17 k v (some bs)).1.fs, .int .i64 (rdR 17 k v (some bs)).1.gen, sl, .int .i64 (rdR 17 k v (some bs)).1.back, .int .i64 (rdR 17 k v (some bs)).1.until_, .int .i64 (rdR 17 k v (some bs)).1.count], .bool (rdR 17 k v (some bs)).2.1]) ∧ BkV W w' sl (rdR 17 k v (some bs)).1.backs ∧ RWo W b (rdR 17 k v (some bs)).2.2 w' ∧ Kept [b] w w' := by
  by_cases h1 : k = 1
  · subst h1; exact Read_1 (k := 0) hv h
  by_cases h2 : k = 2
  · subst h2; exact Read_2 (k := 0) hv h
  by_cases h3 : k = 3
  · subst h3; exact Read_3 (k := 0) hv h
  by_cases h4 : k = 4
  · subst h4; exact Read_4 (k := 0) hv h
  by_cases h5 : k = 5
  · subst h5; exact Read_5 (k := 0) hv h
  by_cases h6 : k = 6
  · subst h6; exact Read_6 (k := 0) hv h
  exact Read_0 hv (by omega) h

set_option maxHeartbeats 6400000 in
set_option maxRecDepth 100000 in
theorem Decode_any (w : World) {G : List Nat} {A : Option Addr} {m c : Nat} (f : FrameD) (h : RdB w G (.slice A m c) f.body) (hm : m ≤ 1000000) :
    Calls Try.prog 33 #[.agg #[.int .i64 f.kind, .int .i64 f.ver, .slice A m c]] w fun e w' => ∃ sl, e = .returned (.tuple #[.agg #[.int .i64 (decR f).kind, .int .u32 ((decR f).tup.src.toNat : Nat), .int .u32 ((decR f).tup.dst.toNat : Nat), .int .i64 (decR f).tup.proto, .int .i64 (decR f).tup.sport, .int .i64 (decR f).tup.dport, .int .i64 (decR f).fb, .int .i64 (decR f).fg, .int .i64 (decR f).fs, .int .i64 (decR f).gen, sl, .int .i64 (decR f).back, .int .i64 (decR f).until_, .int .i64 (decR f).count], .int .i64 (decE f)]) ∧ BkV w w' sl (decR f).backs := by
  have hk0 : Kept [] w ((w.alloc (.cells #[.int .i64 f.kind, .int .i64 f.ver, .slice A m c] 34)).alloc (.cells #[.int .i64 0, .int .u32 0, .int .u32 0, .int .i64 0, .int .i64 0, .int .i64 0, .int .i64 0, .int .i64 0, .int .i64 0, .int .i64 0, .slice none 0 0, .int .i64 0, .int .i64 0, .int .i64 0] 29)) := by (repeat (first | exact Kept.refl _ _ | apply Kept.alloc | apply Kept.drew))
  have B := Lib.hid (show Blk ((w.alloc (.cells #[.int .i64 f.kind, .int .i64 f.ver, .slice A m c] 34)).alloc (.cells #[.int .i64 0, .int .u32 0, .int .u32 0, .int .i64 0, .int .i64 0, .int .i64 0, .int .i64 0, .int .i64 0, .int .i64 0, .int .i64 0, .slice none 0 0, .int .i64 0, .int .i64 0, .int .i64 0] 29)) (w.heap.size + 1) 29 #[.int .i64 0, .int .u32 0, .int .u32 0, .int .i64 0, .int .i64 0, .int .i64 0, .int .i64 0, .int .i64 0, .int .i64 0, .int .i64 0, .slice none 0 0, .int .i64 0, .int .i64 0, .int .i64 0] from by (repeat (first | (apply Blk.new'; simp; done) | apply Blk.alloc | apply Blk.drew)))
  have F := Lib.hid (show Blk ((w.alloc (.cells #[.int .i64 f.kind, .int .i64 f.ver, .slice A m c] 34)).alloc (.cells #[.int .i64 0, .int .u32 0, .int .u32 0, .int .i64 0, .int .i64 0, .int .i64 0, .int .i64 0, .int .i64 0, .int .i64 0, .int .i64 0, .slice none 0 0, .int .i64 0, .int .i64 0, .int .i64 0] 29)) w.heap.size 34 #[.int .i64 f.kind, .int .i64 f.ver, .slice A m c] from by (repeat (first | (apply Blk.new'; simp; done) | apply Blk.alloc | apply Blk.drew)))
  have H := Lib.hid (h.kept hk0 (by simp))
  have K := Lib.hid hk0
  clear h hk0
  cases hv : verB f.ver
  · have he := Lib.hid (show decE f = 10 by simp [decE, hv])
    have hr := Lib.hid (show decR f = default by simp [decR, hv])
    go_enter Try.func33, Try.ntmps33
    go_wp2_with (first
      | (go_at_call 37; refine (version_any _ _).mono ?_; rintro e w' ⟨rfl, rfl⟩; rw [hv])
      | ((with_reducible show wpList _ _ _ ({ dst := none, op := Op.store 29 (.tmp 2) (.tmp 11), type := _, pos := _, after := _, guard := _ } :: _) _ _); refine wpList_put (t := 29) rfl 29 (.tmp 2) (.tmp 11) rfl _ (by rfl) (by rfl) (by exact B.out) (by rfl) (by kernel_rfl) (by simp [Value.oneCell']) ?_; intro w9 hb9 hk9; have Hb9 := Lib.hid hb9; have Hk9 := Lib.hid hk9; clear hb9 hk9))
    refine bodyPost_ret (results_cell1 (t := 29) Try.results33 (by rfl) Hb9.out _ Try.underlying29 rfl (by kernel_rfl)) rfl ?_
    rw [he.out, hr.out]
    exact ⟨_, rfl, LV.nil (K.out.trans Hk9.out (fun i hi => .inr (by simp at hi; omega)))⟩
  · obtain ⟨x, hx⟩ : ∃ x, (rdR 17 f.kind f.ver (some f.body)).1 = x := ⟨_, rfl⟩
    obtain ⟨ok, hok⟩ : ∃ ok, (rdR 17 f.kind f.ver (some f.body)).2.1 = ok := ⟨_, rfl⟩
    obtain ⟨o, ho⟩ : ∃ o, (rdR 17 f.kind f.ver (some f.body)).2.2 = o := ⟨_, rfl⟩
    obtain ⟨en, hen⟩ : ∃ en, endOf (o.getD []) (erO o) = en := ⟨_, rfl⟩
    have hbk := Lib.hid (show x.backs.length ≤ 17 by rw [← hx]; exact rdR_backs 17 _ _ _)
    have hg2 := goodR_end 17 f.kind f.ver f.body
    rw [hx, hok, ho, hen] at hg2
    have EX := Lib.hid hx
    have EK := Lib.hid hok
    have EO := Lib.hid ho
    have EE := Lib.hid hen
    have HV := Lib.hid hv
    have hways : (ok = false) ∨ (ok = true ∧ en ≠ 0) ∨ (ok = true ∧ en = 0 ∧ mayR x = false) ∨ (ok = true ∧ en = 0 ∧ mayR x = true) := by
      cases ok <;> cases mayR x <;> simp <;> omega
    have HG : Hid ((ok = false ∨ en ≠ 0 ∨ mayR x = false) → decE f = 3 ∧ decR f = default) := Lib.hid (fun hh => by
      have : goodR 17 f.kind f.ver f.body = false := by rw [hg2]; rcases hh with hh | hh | hh <;> simp [hh]
      simp [decE, decR, hv, this])
    have HG2 : Hid (ok = true → en = 0 → mayR x = true → decE f = 0 ∧ decR f = x) := Lib.hid (fun h1 h2 h3 => by
      have : goodR 17 f.kind f.ver f.body = true := by rw [hg2]; simp [h1, h2, h3]
      simp [decE, decR, hv, this, hx])
    clear hx hok ho hen hg2
    have hL := H.out.len
    have hmb := hL.1
    have hR := Lib.hid H.out.rd
    have hA := Lib.hid hL.2.2.2
    have hlb := B.out.lt
    clear hL
    rcases hways with d1 | ⟨d1, d2⟩ | ⟨d1, d2, d3⟩ | ⟨d1, d2, d3⟩
    all_goals
      subst d1
      first
        | (have b2 : (en == 0) = false := by simpa using d2)
        | (subst d2)
        | skip
      first
        | (have HZ := HG.out (.inl rfl))
        | (have HZ := HG.out (.inr (.inl d2)))
        | (have HZ := HG.out (.inr (.inr d3)))
        | (have HZ := HG2.out rfl rfl d3)
      have HZ := Lib.hid HZ
      clear HG HG2
      go_enter Try.func33, Try.ntmps33
      go_wp2_with (first
        | (go_at_call 37; refine (version_any _ _).mono ?_; rintro e w' ⟨rfl, rfl⟩; rw [hv])
        | (go_at_call 60
           go_must (refine (NewReader_any _ A m c f.body hR.out hmb hA.out (by omega)).mono ?_)
           go_must (rintro e w1 ⟨b, G1, rfl, h1, k1, hb1, hG1⟩)
           go_must (have hKs := K.out.size)
           go_must (have R : Hid (RWo w b (some f.body) w1) := Lib.hid ⟨G1, h1, by omega, fun k hk => (hG1 k hk).2, K.out.trans k1 (by simp), by show f.body.length ≤ 1000000; omega⟩)
           go_must (have hbw := R.out.lt)
           go_must (have F := Lib.hid (F.out.kept k1 (by simp)))
           go_must (have hcf := F.out.cell)
           go_must (have B := Lib.hid (B.out.kept k1 (by simp)))
           go_must (have K := Lib.hid (K.out.trans k1 (by simp)))
           go_must (have hlt1 : w.heap.size + 1 < b := by omega)
           go_must (clear h1 k1 hb1 hG1 hKs hlb))
        | (go_at_call 61
           go_must (refine (Read_any HV.out R.out).mono ?_)
           go_must (rintro e w3 ⟨sl, rfl, hS, h1, k1⟩)
           go_must (rw [EX.out] at hS ⊢)
           go_must (rw [EK.out])
           go_must (rw [EO.out] at h1)
           go_must (clear hcf)
           go_must (have B := Lib.hid (B.out.kept k1 (by simp <;> omega)))
           go_must (have hlt3 := B.out.lt)
           go_must (have K := Lib.hid (K.out.trans k1 (fun i hi => .inr (by simp at hi; omega))))
           go_must (have R := Lib.hid h1)
           go_must (have S := Lib.hid hS)
           go_must (obtain ⟨A3, m3, c3, rfl⟩ := S.out.form)
           go_must (clear h1 k1 hS))
        | (go_at_call 62
           go_must (refine (DEnd (R.out.go ((Kept.refl [] w3).alloc _))).mono ?_)
           go_must (rintro e w' ⟨rfl, rfl⟩)
           go_must (rw [EE.out]))
        | (go_at_call 18
           go_must (obtain ⟨G2, hsm⟩ := BkV.small (LV.go BkOk S.out ((Kept.refl [] w3).alloc (.cells #[.int .i64 x.kind, .int .u32 (x.tup.src.toNat : Nat), .int .u32 (x.tup.dst.toNat : Nat), .int .i64 x.tup.proto, .int .i64 x.tup.sport, .int .i64 x.tup.dport, .int .i64 x.fb, .int .i64 x.fg, .int .i64 x.fs, .int .i64 x.gen, .slice A3 m3 c3, .int .i64 x.back, .int .i64 x.until_, .int .i64 x.count] 29))) (by have := hbk.out; omega))
           go_must (refine (May_any _ x hsm).mono ?_)
           go_must (rintro e w4 ⟨rfl, k1⟩)
           go_must (rw [d3])
           go_must (have X := Lib.hid ((show Blk (w3.alloc (.cells #[.int .i64 x.kind, .int .u32 (x.tup.src.toNat : Nat), .int .u32 (x.tup.dst.toNat : Nat), .int .i64 x.tup.proto, .int .i64 x.tup.sport, .int .i64 x.tup.dport, .int .i64 x.fb, .int .i64 x.fg, .int .i64 x.fs, .int .i64 x.gen, .slice A3 m3 c3, .int .i64 x.back, .int .i64 x.until_, .int .i64 x.count] 29)) w3.heap.size 29 #[.int .i64 x.kind, .int .u32 (x.tup.src.toNat : Nat), .int .u32 (x.tup.dst.toNat : Nat), .int .i64 x.tup.proto, .int .i64 x.tup.sport, .int .i64 x.tup.dport, .int .i64 x.fb, .int .i64 x.fg, .int .i64 x.fs, .int .i64 x.gen, .slice A3 m3 c3, .int .i64 x.back, .int .i64 x.until_, .int .i64 x.count] from by (repeat (first | (apply Blk.new'; simp; done) | apply Blk.alloc | apply Blk.drew))).kept k1 (by simp)))
           go_must (have B := Lib.hid ((B.out.alloc _).kept k1 (by simp)))
           go_must (have hcx := X.out.cell)
           go_must (have S := Lib.hid (LV.go BkOk (LV.go BkOk S.out ((Kept.refl [] w3).alloc (.cells #[.int .i64 x.kind, .int .u32 (x.tup.src.toNat : Nat), .int .u32 (x.tup.dst.toNat : Nat), .int .i64 x.tup.proto, .int .i64 x.tup.sport, .int .i64 x.tup.dport, .int .i64 x.fb, .int .i64 x.fg, .int .i64 x.fs, .int .i64 x.gen, .slice A3 m3 c3, .int .i64 x.back, .int .i64 x.until_, .int .i64 x.count] 29))) k1))
           go_must (have K := Lib.hid ((K.out.alloc _).trans k1 (by simp)))
           go_must (clear k1 hsm))
        | ((with_reducible show wpList _ _ _ ({ dst := none, op := Op.store 29 (.tmp 2) (.tmp 36), type := _, pos := _, after := _, guard := _ } :: _) _ _); refine wpList_put (t := 29) rfl 29 (.tmp 2) (.tmp 36) rfl _ (by rfl) (by rfl) (by exact B.out) (by rfl) (by kernel_rfl) (by simp [Value.oneCell']) ?_; intro w9 hb9 hk9; have Hb9 := Lib.hid hb9; have Hk9 := Lib.hid hk9; clear hb9 hk9)
        | ((with_reducible show wpList _ _ _ ({ dst := none, op := Op.store 29 (.tmp 2) (.tmp 36), type := _, pos := _, after := _, guard := _ } :: _) _ _); refine wpList_put (t := 29) rfl 29 (.tmp 2) (.tmp 36) rfl _ (by rfl) (by rfl) (by exact B.out.alloc _) (by rfl) (by kernel_rfl) (by simp [Value.oneCell']) ?_; intro w9 hb9 hk9; have Hb9 := Lib.hid hb9; have Hk9 := Lib.hid hk9; clear hb9 hk9)
        | ((with_reducible show wpList _ _ _ ({ dst := none, op := Op.store 29 (.tmp 2) (.tmp 37), type := _, pos := _, after := _, guard := _ } :: _) _ _); refine wpList_put (t := 29) rfl 29 (.tmp 2) (.tmp 37) rfl _ (by rfl) (by rfl) (by exact B.out) (by rfl) (by kernel_rfl) (by simp [Value.oneCell']) ?_; intro w9 hb9 hk9; have Hb9 := Lib.hid hb9; have Hk9 := Lib.hid hk9; clear hb9 hk9))
      refine bodyPost_ret (results_cell1 (t := 29) Try.results33 (by rfl) Hb9.out _ Try.underlying29 rfl (by kernel_rfl)) rfl ?_
      rw [HZ.out.1, HZ.out.2]
      first
        | (with_reducible exact ⟨_, rfl, BkV.far S.out Hk9.out B.out (by decide) (by omega)⟩)
        | exact ⟨_, rfl, LV.nil (K.out.trans Hk9.out (fun i hi => .inr (by simp at hi; omega)))⟩
        | exact ⟨_, rfl, LV.nil ((K.out.alloc _).trans Hk9.out (fun i hi => .inr (by simp at hi; omega)))⟩
end Go.Proofs.Ytogdpfjbclnlnaa
