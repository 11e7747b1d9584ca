/-
  Plain laws of records for the laws on them: what its kind has not makes no difference; two records have one body just if they are the same; written and read.
-/
import Derived.Test.YtkacghjglicjiaaGreatLv
import Derived.Test.YtkacghjglicjiaaGreatRecC
import Derived.Test.YtkacghjglicjiaaGreatRecJ
import Derived.Test.YtkacghjglicjiaaGreatRecF
namespace Go.Proofs.YtkacghjglicjiaaGreat
set_option linter.unusedVariables false
section
open Go.RowKit Go.ChangeShapes Go.WideShapes Go.ChangeAt
set_option maxRecDepth 100000
theorem BkV.far {W w w' : World} {g : Nat} {t : TypeId} {cs : Array Value} {sl : Value} {l : List BackD} (h : BkV W w sl l) (hk : Kept [g] w w') (hb : Blk w g t cs) (ht : 78 ≠ t) (hg : W.heap.size ≤ g) : BkV W w' sl l := by
  obtain ⟨css, G, hx⟩ := h
  exact ⟨css, [], hx.own.kept hk (fun k hk' hm => by simp at hm; subst hm; exact hx.own.ne_blk hb ht hk'), hx.new, ⟨hx.decs.1, hx.decs.2⟩, by simp, hx.keptW.trans hk (fun k hk' => .inr (by simp at hk'; omega))⟩
theorem BkV.small {W w : World} {A : Option Addr} {m c : Nat} {l : List BackD} (h : BkV W w (.slice A m c) l) (hl : l.length ≤ 1000000) : ∃ G, SmallB w G A m c l := by
  obtain ⟨G, ha, hG⟩ := LV.arr BkOk h
  have := BkArr.len ha
  exact ⟨G, ha, hG, by omega⟩
theorem BkV.form {W w : World} {sl : Value} {l : List BackD} (h : BkV W w sl l) : ∃ A m c, sl = .slice A m c := by obtain ⟨_, _, h⟩ := h; exact Own.form' h.own
theorem open_list {H : Type} {enc : TypeId × Value → H} {w : World} {α : Type} [Inhabited α] {t e : TypeId} {n : Nat} {Dec : World → List Nat → List Value → α → Prop} {bk : α → Nat} (ht : Tryz.prog.underlying t = some (.slice e)) (hn : Tryz.prog.cellsOf e = n) (hp : 0 < n)
    (ho : ∀ {fuel : Nat} {cs : List Value} {x : DataW H × List MemPlace}, DataW.trod enc Tryz.prog w 0 (fun _ => true) true fuel e cs = some x → ∃ a : α, Dec w (old w) cs a ∧ bk a ≤ Rows.uptoBulk x.1)
    {v : Value} {d : DataW H} {p : List MemPlace} {base : Nat} (hv : Value.okWide Tryz.prog w .any base t v) (h : DataW.Trod enc Tryz.prog w 0 (fun _ => true) true t v d p) :
    ∃ l : List α, ArrOf w (old w) n (fun w => Dec w (old w)) v l ∧ (l.map bk).sum + 1 ≤ Rows.uptoBulk d := by
  obtain ⟨a0, len, cap, rfl⟩ := okWide_slice ht hv
  obtain ⟨fuel, hf⟩ := h
  obtain ⟨A, m, c, E, D, e1, h2, h3, h4, h5, h6, h7⟩ := open_slice_at ht hn hp hf
  obtain ⟨l, hl, hd, hs⟩ := list_of_dec (α := α) (m := m) (E := E) (D := D) (Dec := fun cs a => Dec w (old w) cs a) (bk := bk) (fun i hi => by
    obtain ⟨_, fu, ps, ht⟩ := h6 i hi
    exact ho ht)
  refine ⟨l, ⟨A, m, c, by simpa [Value.cells] using e1, hl, h2, h3, h4, fun hne => ?_⟩, by simp only at h7; omega⟩
  obtain ⟨g, o, e2, e3, e4⟩ := h5 (by
    rcases Nat.eq_zero_or_pos m with h0 | h0
    · subst h0; exact absurd (List.eq_nil_of_length_eq_zero hl) hne
    · exact h0)
  refine ⟨g, o, e2, List.mem_range.2 e3, e3, fun i a hi => ?_⟩
  have hlt : i < m := by have := (List.getElem?_eq_some_iff.1 hi).1; omega
  exact ⟨E i, (h6 i hlt).1, hd i a hi, fun j hj => e4 i j hlt hj⟩
end
section
open Go.RowKit Go.ChangeShapes Go.WideShapes Go.Deep
set_option maxRecDepth 100000
def decE (f : FrameD) : Int := if verB f.ver = true then (if goodR 17 f.kind f.ver f.body = true then 0 else 3) else 10
def decR (f : FrameD) : RecD := if verB f.ver = true ∧ goodR 17 f.kind f.ver f.body = true then (rdR 17 f.kind f.ver (some f.body)).1 else default
theorem rdR_backs (cap : Nat) (k v : Int) (o : Option (List UInt8)) : (rdR cap k v o).1.backs.length ≤ cap := by
  unfold rdR
  repeat' split
  all_goals first | (simp [default]; done) | (simp only [rdBs_len]; omega)
theorem end_iff (o : Option (List UInt8)) : endOf (o.getD []) (erO o) = 0 ↔ o = some [] := by
  cases o with
  | none => simp [endOf, erO]
  | some bs => cases bs <;> simp [endOf, erO]
theorem goodR_end (cap : Nat) (k v : Int) (bs : List UInt8) : goodR cap k v bs = ((rdR cap k v (some bs)).2.1 && (decide (endOf ((rdR cap k v (some bs)).2.2.getD []) (erO (rdR cap k v (some bs)).2.2) = 0) && mayR (rdR cap k v (some bs)).1)) := by
  unfold goodR
  congr 2
  rw [Bool.eq_iff_iff]
  simp [end_iff]
theorem Read_any {W w : World} {b : Nat} {bs : List UInt8} {k v : Int} (hv : verB v = true) (h : RWo W b (some bs) w) :
    Calls Tryz.prog 72 #[.pointer (some ⟨b, 0, none⟩), .int .i64 k, .int .i64 v] w fun e w' => ∃ sl, e = .returned (.tuple #[.agg #[.int .i64 (rdR 17 k v (some bs)).1.kind, .int .u32 ((rdR 17 k v (some bs)).1.tup.src.toNat : Nat), .int .u32 ((rdR 17 k v (some bs)).1.tup.dst.toNat : Nat), .int .i64 (rdR 17 k v (some bs)).1.tup.proto, .int .i64 (rdR 17 k v (some bs)).1.tup.sport, .int .i64 (rdR 17 k v (some bs)).1.tup.dport, .int .i64 (rdR 17 k v (some bs)).1.fb, .int .i64 (rdR 17 k v (some bs)).1.fg, .int .i64 (rdR 17 k v (some bs)).1.fs, .int .i64 (rdR 17 k v (some bs)).1.gen, sl, .int .i64 (rdR 17 k v (some bs)).1.back, .int .i64 (rdR 17 k v (some bs)).1.until_, .int .i64 (rdR 17 k v (some bs)).1.count], .bool (rdR 17 k v (some bs)).2.1]) ∧ BkV W w' sl (rdR 17 k v (some bs)).1.backs ∧ RWo W b (rdR 17 k v (some bs)).2.2 w' ∧ Kept [b] w w' := by
  by_cases h1 : k = 1
  · subst h1; exact Read_1 (k := 0) hv h
  by_cases h2 : k = 2
  · subst h2; exact Read_2 (k := 0) hv h
  by_cases h3 : k = 3
  · subst h3; exact Read_3 (k := 0) hv h
  by_cases h4 : k = 4
  · subst h4; exact Read_4 (k := 0) hv h
  by_cases h5 : k = 5
  · subst h5; exact Read_5 (k := 0) hv h
  by_cases h6 : k = 6
  · subst h6; exact Read_6 (k := 0) hv h
  exact Read_0 hv (by omega) h
set_option maxHeartbeats 6400000 in
set_option maxRecDepth 100000 in
theorem Decode_any (w : World) {G : List Nat} {A : Option Addr} {m c : Nat} (f : FrameD) (h : RdB w G (.slice A m c) f.body) (hm : m ≤ 1000000) :
    Calls Tryz.prog 34 #[.agg #[.int .i64 f.kind, .int .i64 f.ver, .slice A m c]] w fun e w' => ∃ sl, e = .returned (.tuple #[.agg #[.int .i64 (decR f).kind, .int .u32 ((decR f).tup.src.toNat : Nat), .int .u32 ((decR f).tup.dst.toNat : Nat), .int .i64 (decR f).tup.proto, .int .i64 (decR f).tup.sport, .int .i64 (decR f).tup.dport, .int .i64 (decR f).fb, .int .i64 (decR f).fg, .int .i64 (decR f).fs, .int .i64 (decR f).gen, sl, .int .i64 (decR f).back, .int .i64 (decR f).until_, .int .i64 (decR f).count], .int .i64 (decE f)]) ∧ BkV w w' sl (decR f).backs := by
  have hk0 : Kept [] w ((w.alloc (.cells #[.int .i64 f.kind, .int .i64 f.ver, .slice A m c] 45)).alloc (.cells #[.int .i64 0, .int .u32 0, .int .u32 0, .int .i64 0, .int .i64 0, .int .i64 0, .int .i64 0, .int .i64 0, .int .i64 0, .int .i64 0, .slice none 0 0, .int .i64 0, .int .i64 0, .int .i64 0] 43)) := by (repeat (first | exact Kept.refl _ _ | apply Kept.alloc | apply Kept.drew))
  have B := Lib.hid (show Blk ((w.alloc (.cells #[.int .i64 f.kind, .int .i64 f.ver, .slice A m c] 45)).alloc (.cells #[.int .i64 0, .int .u32 0, .int .u32 0, .int .i64 0, .int .i64 0, .int .i64 0, .int .i64 0, .int .i64 0, .int .i64 0, .int .i64 0, .slice none 0 0, .int .i64 0, .int .i64 0, .int .i64 0] 43)) (w.heap.size + 1) 43 #[.int .i64 0, .int .u32 0, .int .u32 0, .int .i64 0, .int .i64 0, .int .i64 0, .int .i64 0, .int .i64 0, .int .i64 0, .int .i64 0, .slice none 0 0, .int .i64 0, .int .i64 0, .int .i64 0] from by (repeat (first | (apply Blk.new'; simp; done) | apply Blk.alloc | apply Blk.drew)))
  have F := Lib.hid (show Blk ((w.alloc (.cells #[.int .i64 f.kind, .int .i64 f.ver, .slice A m c] 45)).alloc (.cells #[.int .i64 0, .int .u32 0, .int .u32 0, .int .i64 0, .int .i64 0, .int .i64 0, .int .i64 0, .int .i64 0, .int .i64 0, .int .i64 0, .slice none 0 0, .int .i64 0, .int .i64 0, .int .i64 0] 43)) w.heap.size 45 #[.int .i64 f.kind, .int .i64 f.ver, .slice A m c] from by (repeat (first | (apply Blk.new'; simp; done) | apply Blk.alloc | apply Blk.drew)))
  have H := Lib.hid (h.kept hk0 (by simp))
  have K := Lib.hid hk0
  clear h hk0
  cases hv : verB f.ver
  · have he := Lib.hid (show decE f = 10 by simp [decE, hv])
    have hr := Lib.hid (show decR f = default by simp [decR, hv])
    go_enter Tryz.func34, Tryz.ntmps34
    go_wp2_with (first
      | (go_at_call 56; refine (version_any _ _).mono ?_; rintro e w' ⟨rfl, rfl⟩; rw [hv])
      | ((with_reducible show wpList _ _ _ ({ dst := none, op := Op.store 43 (.tmp 2) (.tmp 11), type := _, pos := _, after := _, guard := _ } :: _) _ _); refine wpList_put (t := 43) rfl 43 (.tmp 2) (.tmp 11) rfl _ (by rfl) (by rfl) (by exact B.out) (by rfl) (by kernel_rfl) (by simp [Value.oneCell']) ?_; intro w9 hb9 hk9; have Hb9 := Lib.hid hb9; have Hk9 := Lib.hid hk9; clear hb9 hk9))
    refine bodyPost_ret (results_cell1 (t := 43) Tryz.results34 (by rfl) Hb9.out _ Tryz.underlying43 rfl (by kernel_rfl)) rfl ?_
    rw [he.out, hr.out]
    exact ⟨_, rfl, LV.nil (K.out.trans Hk9.out (fun i hi => .inr (by simp at hi; omega)))⟩
  · obtain ⟨x, hx⟩ : ∃ x, (rdR 17 f.kind f.ver (some f.body)).1 = x := ⟨_, rfl⟩
    obtain ⟨ok, hok⟩ : ∃ ok, (rdR 17 f.kind f.ver (some f.body)).2.1 = ok := ⟨_, rfl⟩
    obtain ⟨o, ho⟩ : ∃ o, (rdR 17 f.kind f.ver (some f.body)).2.2 = o := ⟨_, rfl⟩
    obtain ⟨en, hen⟩ : ∃ en, endOf (o.getD []) (erO o) = en := ⟨_, rfl⟩
    have hbk := Lib.hid (show x.backs.length ≤ 17 by rw [← hx]; exact rdR_backs 17 _ _ _)
    have hg2 := goodR_end 17 f.kind f.ver f.body
    rw [hx, hok, ho, hen] at hg2
    have EX := Lib.hid hx
    have EK := Lib.hid hok
    have EO := Lib.hid ho
    have EE := Lib.hid hen
    have HV := Lib.hid hv
    have hways : (ok = false) ∨ (ok = true ∧ en ≠ 0) ∨ (ok = true ∧ en = 0 ∧ mayR x = false) ∨ (ok = true ∧ en = 0 ∧ mayR x = true) := by
      cases ok <;> cases mayR x <;> simp <;> omega
    have HG : Hid ((ok = false ∨ en ≠ 0 ∨ mayR x = false) → decE f = 3 ∧ decR f = default) := Lib.hid (fun hh => by
      have : goodR 17 f.kind f.ver f.body = false := by rw [hg2]; rcases hh with hh | hh | hh <;> simp [hh]
      simp [decE, decR, hv, this])
    have HG2 : Hid (ok = true → en = 0 → mayR x = true → decE f = 0 ∧ decR f = x) := Lib.hid (fun h1 h2 h3 => by
      have : goodR 17 f.kind f.ver f.body = true := by rw [hg2]; simp [h1, h2, h3]
      simp [decE, decR, hv, this, hx])
    clear hx hok ho hen hg2
    have hL := H.out.len
    have hmb := hL.1
    have hR := Lib.hid H.out.rd
    have hA := Lib.hid hL.2.2.2
    have hlb := B.out.lt
    clear hL
    rcases hways with d1 | ⟨d1, d2⟩ | ⟨d1, d2, d3⟩ | ⟨d1, d2, d3⟩
    all_goals
      subst d1
      first
        | (have b2 : (en == 0) = false := by simpa using d2)
        | (subst d2)
        | skip
      first
        | (have HZ := HG.out (.inl rfl))
        | (have HZ := HG.out (.inr (.inl d2)))
        | (have HZ := HG.out (.inr (.inr d3)))
        | (have HZ := HG2.out rfl rfl d3)
      have HZ := Lib.hid HZ
      clear HG HG2
      go_enter Tryz.func34, Tryz.ntmps34
      go_wp2_with (first
        | (go_at_call 56; refine (version_any _ _).mono ?_; rintro e w' ⟨rfl, rfl⟩; rw [hv])
        | (go_at_call 71
           go_must (refine (NewReader_any _ A m c f.body hR.out hmb hA.out (by omega)).mono ?_)
           go_must (rintro e w1 ⟨b, G1, rfl, h1, k1, hb1, hG1⟩)
           go_must (have hKs := K.out.size)
           go_must (have R : Hid (RWo w b (some f.body) w1) := Lib.hid ⟨G1, h1, by omega, fun k hk => (hG1 k hk).2, K.out.trans k1 (by simp), by show f.body.length ≤ 1000000; omega⟩)
           go_must (have hbw := R.out.lt)
           go_must (have F := Lib.hid (F.out.kept k1 (by simp)))
           go_must (have hcf := F.out.cell)
           go_must (have B := Lib.hid (B.out.kept k1 (by simp)))
           go_must (have K := Lib.hid (K.out.trans k1 (by simp)))
           go_must (have hlt1 : w.heap.size + 1 < b := by omega)
           go_must (clear h1 k1 hb1 hG1 hKs hlb))
        | (go_at_call 72
           go_must (refine (Read_any HV.out R.out).mono ?_)
           go_must (rintro e w3 ⟨sl, rfl, hS, h1, k1⟩)
           go_must (rw [EX.out] at hS ⊢)
           go_must (rw [EK.out])
           go_must (rw [EO.out] at h1)
           go_must (clear hcf)
           go_must (have B := Lib.hid (B.out.kept k1 (by simp <;> omega)))
           go_must (have hlt3 := B.out.lt)
           go_must (have K := Lib.hid (K.out.trans k1 (fun i hi => .inr (by simp at hi; omega))))
           go_must (have R := Lib.hid h1)
           go_must (have S := Lib.hid hS)
           go_must (obtain ⟨A3, m3, c3, rfl⟩ := S.out.form)
           go_must (clear h1 k1 hS))
        | (go_at_call 73
           go_must (refine (DEnd (R.out.go ((Kept.refl [] w3).alloc _))).mono ?_)
           go_must (rintro e w' ⟨rfl, rfl⟩)
           go_must (rw [EE.out]))
        | (go_at_call 57
           go_must (obtain ⟨G2, hsm⟩ := BkV.small (LV.go BkOk S.out ((Kept.refl [] w3).alloc (.cells #[.int .i64 x.kind, .int .u32 (x.tup.src.toNat : Nat), .int .u32 (x.tup.dst.toNat : Nat), .int .i64 x.tup.proto, .int .i64 x.tup.sport, .int .i64 x.tup.dport, .int .i64 x.fb, .int .i64 x.fg, .int .i64 x.fs, .int .i64 x.gen, .slice A3 m3 c3, .int .i64 x.back, .int .i64 x.until_, .int .i64 x.count] 43))) (by have := hbk.out; omega))
           go_must (refine (May_any _ x hsm).mono ?_)
           go_must (rintro e w4 ⟨rfl, k1⟩)
           go_must (rw [d3])
           go_must (have X := Lib.hid ((show Blk (w3.alloc (.cells #[.int .i64 x.kind, .int .u32 (x.tup.src.toNat : Nat), .int .u32 (x.tup.dst.toNat : Nat), .int .i64 x.tup.proto, .int .i64 x.tup.sport, .int .i64 x.tup.dport, .int .i64 x.fb, .int .i64 x.fg, .int .i64 x.fs, .int .i64 x.gen, .slice A3 m3 c3, .int .i64 x.back, .int .i64 x.until_, .int .i64 x.count] 43)) w3.heap.size 43 #[.int .i64 x.kind, .int .u32 (x.tup.src.toNat : Nat), .int .u32 (x.tup.dst.toNat : Nat), .int .i64 x.tup.proto, .int .i64 x.tup.sport, .int .i64 x.tup.dport, .int .i64 x.fb, .int .i64 x.fg, .int .i64 x.fs, .int .i64 x.gen, .slice A3 m3 c3, .int .i64 x.back, .int .i64 x.until_, .int .i64 x.count] from by (repeat (first | (apply Blk.new'; simp; done) | apply Blk.alloc | apply Blk.drew))).kept k1 (by simp)))
           go_must (have B := Lib.hid ((B.out.alloc _).kept k1 (by simp)))
           go_must (have hcx := X.out.cell)
           go_must (have S := Lib.hid (LV.go BkOk (LV.go BkOk S.out ((Kept.refl [] w3).alloc (.cells #[.int .i64 x.kind, .int .u32 (x.tup.src.toNat : Nat), .int .u32 (x.tup.dst.toNat : Nat), .int .i64 x.tup.proto, .int .i64 x.tup.sport, .int .i64 x.tup.dport, .int .i64 x.fb, .int .i64 x.fg, .int .i64 x.fs, .int .i64 x.gen, .slice A3 m3 c3, .int .i64 x.back, .int .i64 x.until_, .int .i64 x.count] 43))) k1))
           go_must (have K := Lib.hid ((K.out.alloc _).trans k1 (by simp)))
           go_must (clear k1 hsm))
        | ((with_reducible show wpList _ _ _ ({ dst := none, op := Op.store 43 (.tmp 2) (.tmp 36), type := _, pos := _, after := _, guard := _ } :: _) _ _); refine wpList_put (t := 43) rfl 43 (.tmp 2) (.tmp 36) rfl _ (by rfl) (by rfl) (by exact B.out) (by rfl) (by kernel_rfl) (by simp [Value.oneCell']) ?_; intro w9 hb9 hk9; have Hb9 := Lib.hid hb9; have Hk9 := Lib.hid hk9; clear hb9 hk9)
        | ((with_reducible show wpList _ _ _ ({ dst := none, op := Op.store 43 (.tmp 2) (.tmp 36), type := _, pos := _, after := _, guard := _ } :: _) _ _); refine wpList_put (t := 43) rfl 43 (.tmp 2) (.tmp 36) rfl _ (by rfl) (by rfl) (by exact B.out.alloc _) (by rfl) (by kernel_rfl) (by simp [Value.oneCell']) ?_; intro w9 hb9 hk9; have Hb9 := Lib.hid hb9; have Hk9 := Lib.hid hk9; clear hb9 hk9)
        | ((with_reducible show wpList _ _ _ ({ dst := none, op := Op.store 43 (.tmp 2) (.tmp 37), type := _, pos := _, after := _, guard := _ } :: _) _ _); refine wpList_put (t := 43) rfl 43 (.tmp 2) (.tmp 37) rfl _ (by rfl) (by rfl) (by exact B.out) (by rfl) (by kernel_rfl) (by simp [Value.oneCell']) ?_; intro w9 hb9 hk9; have Hb9 := Lib.hid hb9; have Hk9 := Lib.hid hk9; clear hb9 hk9))
      refine bodyPost_ret (results_cell1 (t := 43) Tryz.results34 (by rfl) Hb9.out _ Tryz.underlying43 rfl (by kernel_rfl)) rfl ?_
      rw [HZ.out.1, HZ.out.2]
      first
        | (with_reducible exact ⟨_, rfl, BkV.far S.out Hk9.out B.out (by decide) (by omega)⟩)
        | exact ⟨_, rfl, LV.nil (K.out.trans Hk9.out (fun i hi => .inr (by simp at hi; omega)))⟩
        | exact ⟨_, rfl, LV.nil ((K.out.alloc _).trans Hk9.out (fun i hi => .inr (by simp at hi; omega)))⟩
end
section
open Go.RowKit Go.ChangeShapes Go.WideShapes Go.Deep
set_option maxHeartbeats 3200000 in
set_option maxRecDepth 100000 in
theorem write_any {W w : World} {b : Nat} (h : WV W b [] w) {G : List Nat} {A : Option Addr} {m c : Nat} (r : RecD) (v : Int) (ha : BkArr W G (.slice A m c) r.backs) (hm : m ≤ 1000) :
    Calls Tryz.prog 58 #[.pointer (some ⟨b, 0, none⟩), .agg #[.int .i64 r.kind, .int .u32 (r.tup.src.toNat : Nat), .int .u32 (r.tup.dst.toNat : Nat), .int .i64 r.tup.proto, .int .i64 r.tup.sport, .int .i64 r.tup.dport, .int .i64 r.fb, .int .i64 r.fg, .int .i64 r.fs, .int .i64 r.gen, .slice A m c, .int .i64 r.back, .int .i64 r.until_, .int .i64 r.count], .int .i64 v] w fun e w' => e = .returned (.tuple #[]) ∧ WV W b (bodyR r v) w' := by
  have V0 := Lib.hid (h.go ((Kept.refl [] w).alloc (.cells #[.int .i64 r.kind, .int .u32 (r.tup.src.toNat : Nat), .int .u32 (r.tup.dst.toNat : Nat), .int .i64 r.tup.proto, .int .i64 r.tup.sport, .int .i64 r.tup.dport, .int .i64 r.fb, .int .i64 r.fg, .int .i64 r.fs, .int .i64 r.gen, .slice A m c, .int .i64 r.back, .int .i64 r.until_, .int .i64 r.count] 43)))
  have Hb := Lib.hid (Blk.new w 43 #[.int .i64 r.kind, .int .u32 (r.tup.src.toNat : Nat), .int .u32 (r.tup.dst.toNat : Nat), .int .i64 r.tup.proto, .int .i64 r.tup.sport, .int .i64 r.tup.dport, .int .i64 r.fb, .int .i64 r.fg, .int .i64 r.fs, .int .i64 r.gen, .slice A m c, .int .i64 r.back, .int .i64 r.until_, .int .i64 r.count])
  have A0 := Lib.hid (Apart.of_kept (Kept.refl [] (w.alloc (.cells #[.int .i64 r.kind, .int .u32 (r.tup.src.toNat : Nat), .int .u32 (r.tup.dst.toNat : Nat), .int .i64 r.tup.proto, .int .i64 r.tup.sport, .int .i64 r.tup.dport, .int .i64 r.fb, .int .i64 r.fg, .int .i64 r.fs, .int .i64 r.gen, .slice A m c, .int .i64 r.back, .int .i64 r.until_, .int .i64 r.count] 43))))
  have HA := Lib.hid ha
  have HL := Lib.hid ha.len
  clear h ha
  have hcx : True := trivial
  by_cases k1 : r.kind = 1
  · have b1 : (r.kind == 1) = true := by simp [k1]
    by_cases v3 : 3 ≤ v
    · have hp := Lib.hid (show bodyR r v = tupB r.tup ++ u16B r.fb ++ u32B r.fg ++ i64B r.fs by simp [bodyR, k1, v3, show 2 ≤ v by omega])
      have v2 : 2 ≤ v := by omega
      clear k1
      go_enter Tryz.func58, Tryz.ntmps58
      go_wp2_with fail
      refine (TW_any V0.out r.tup (by simp; try omega)).mono ?_
      rintro e w1 ⟨rfl, hv, ha⟩
      have A1 := Lib.hid (A0.out.trans ha)
      clear hcx
      have hcx := (A1.out _ _ _ (by decide) (by decide) Hb.out).cell
      have V1 := Lib.hid hv
      clear hv ha
      go_wp2_with fail
      refine (VU16 V1.out r.fb (by simp [len_all]; try omega)).mono ?_
      rintro e w2 ⟨rfl, hv, ha⟩
      have A2 := Lib.hid (A1.out.trans ha)
      clear hcx
      have hcx := (A2.out _ _ _ (by decide) (by decide) Hb.out).cell
      have V2 := Lib.hid hv
      clear hv ha
      go_wp2_with fail
      refine (VU32 V2.out _ (u32n r.fg) (wrap_u32n _) (u32n_lt _) (by simp [len_all]; try omega)).mono ?_
      rintro e w3 ⟨rfl, hv, ha⟩
      have A3 := Lib.hid (A2.out.trans ha)
      clear hcx
      have hcx := (A3.out _ _ _ (by decide) (by decide) Hb.out).cell
      have V3 := Lib.hid hv
      clear hv ha
      go_wp2_with fail
      refine (VI64 V3.out r.fs (by simp [len_all]; try omega)).mono ?_
      rintro e w4 ⟨rfl, hv, ha⟩
      have A4 := Lib.hid (A3.out.trans ha)
      clear hcx
      have hcx := (A4.out _ _ _ (by decide) (by decide) Hb.out).cell
      have V4 := Lib.hid hv
      clear hv ha
      go_wp2
      go_end0
      refine ⟨rfl, ?_⟩
      rw [hp.out]
      simpa [u8B, u16B, u32B, i64B] using V4.out
    by_cases v2 : 2 ≤ v
    · have hp := Lib.hid (show bodyR r v = tupB r.tup ++ u16B r.fb ++ u32B r.fg by simp [bodyR, k1, v2, v3])
      clear k1
      go_enter Tryz.func58, Tryz.ntmps58
      go_wp2_with fail
      refine (TW_any V0.out r.tup (by simp; try omega)).mono ?_
      rintro e w1 ⟨rfl, hv, ha⟩
      have A1 := Lib.hid (A0.out.trans ha)
      clear hcx
      have hcx := (A1.out _ _ _ (by decide) (by decide) Hb.out).cell
      have V1 := Lib.hid hv
      clear hv ha
      go_wp2_with fail
      refine (VU16 V1.out r.fb (by simp [len_all]; try omega)).mono ?_
      rintro e w2 ⟨rfl, hv, ha⟩
      have A2 := Lib.hid (A1.out.trans ha)
      clear hcx
      have hcx := (A2.out _ _ _ (by decide) (by decide) Hb.out).cell
      have V2 := Lib.hid hv
      clear hv ha
      go_wp2_with fail
      refine (VU32 V2.out _ (u32n r.fg) (wrap_u32n _) (u32n_lt _) (by simp [len_all]; try omega)).mono ?_
      rintro e w3 ⟨rfl, hv, ha⟩
      have A3 := Lib.hid (A2.out.trans ha)
      clear hcx
      have hcx := (A3.out _ _ _ (by decide) (by decide) Hb.out).cell
      have V3 := Lib.hid hv
      clear hv ha
      go_wp2
      go_end0
      refine ⟨rfl, ?_⟩
      rw [hp.out]
      simpa [u8B, u16B, u32B, i64B] using V3.out
    · have hp := Lib.hid (show bodyR r v = tupB r.tup ++ u16B r.fb by simp [bodyR, k1, v2, v3])
      clear k1
      go_enter Tryz.func58, Tryz.ntmps58
      go_wp2_with fail
      refine (TW_any V0.out r.tup (by simp; try omega)).mono ?_
      rintro e w1 ⟨rfl, hv, ha⟩
      have A1 := Lib.hid (A0.out.trans ha)
      clear hcx
      have hcx := (A1.out _ _ _ (by decide) (by decide) Hb.out).cell
      have V1 := Lib.hid hv
      clear hv ha
      go_wp2_with fail
      refine (VU16 V1.out r.fb (by simp [len_all]; try omega)).mono ?_
      rintro e w2 ⟨rfl, hv, ha⟩
      have A2 := Lib.hid (A1.out.trans ha)
      clear hcx
      have hcx := (A2.out _ _ _ (by decide) (by decide) Hb.out).cell
      have V2 := Lib.hid hv
      clear hv ha
      go_wp2
      go_end0
      refine ⟨rfl, ?_⟩
      rw [hp.out]
      simpa [u8B, u16B, u32B, i64B] using V2.out
  have b1 : (r.kind == 1) = false := by simp [k1]
  by_cases k2 : r.kind = 2
  · have b2 : (r.kind == 2) = true := by simp [k2]
    have hp := Lib.hid (show bodyR r v = tupB r.tup by simp [bodyR, k2])
    clear k2
    go_enter Tryz.func58, Tryz.ntmps58
    go_wp2_with fail
    refine (TW_any V0.out r.tup (by simp; try omega)).mono ?_
    rintro e w1 ⟨rfl, hv, ha⟩
    have A1 := Lib.hid (A0.out.trans ha)
    clear hcx
    have hcx := (A1.out _ _ _ (by decide) (by decide) Hb.out).cell
    have V1 := Lib.hid hv
    clear hv ha
    go_wp2
    go_end0
    refine ⟨rfl, ?_⟩
    rw [hp.out]
    simpa [u8B, u16B, u32B, i64B] using V1.out
  have b2 : (r.kind == 2) = false := by simp [k2]
  by_cases k3 : r.kind = 3
  · have b3 : (r.kind == 3) = true := by simp [k3]
    by_cases v2 : 2 ≤ v
    · have hbb : ∀ bk, backB v bk = u16B bk.id ++ beK bk.addr.toNat 4 4 ++ u8B bk.weight := fun bk => by simp [backB, v2]
      have Hbb := Lib.hid hbb
      clear hbb
      have hp := Lib.hid (show bodyR r v = u32B r.gen ++ u8B r.backs.length ++ r.backs.flatMap (backB v) by simp [bodyR, k3])
      clear k3
      go_enter Tryz.func58, Tryz.ntmps58
      go_wp2_with fail
      refine (VU32 V0.out _ (u32n r.gen) (wrap_u32n _) (u32n_lt _) (by simp; try omega)).mono ?_
      rintro e w1 ⟨rfl, hv, ha⟩
      have A1 := Lib.hid (A0.out.trans ha)
      clear hcx
      have hcx := (A1.out _ _ _ (by decide) (by decide) Hb.out).cell
      have V1 := Lib.hid hv
      clear hv ha
      go_wp2_with fail
      refine (VU8 V1.out (m : Int) (by simp [len_all]; try omega)).mono ?_
      rintro e w2 ⟨rfl, hv, ha⟩
      have A2 := Lib.hid (A1.out.trans ha)
      clear hcx
      have hcx := (A2.out _ _ _ (by decide) (by decide) Hb.out).cell
      have V2 := Lib.hid hv
      clear hv ha
      have B2 := Lib.hid (A2.out _ _ _ (by decide) (by decide) Hb.out)
      go_wp2
      clear hcx
      go_loopg [62] m (fun g i wr => ∃ k : Nat, k ≤ m ∧ g = m - k ∧ i = .int .i64 k ∧ WV W b (([] ++ beK (u32n r.gen) 4 4 ++ beK (nat64 (m : Int)) 1 1) ++ (r.backs.take k).flatMap (backB v)) wr)
      case atStart => exact ⟨0, by omega, by omega, rfl, by simpa using V2.out⟩
      case round =>
        obtain ⟨k, hk, rfl, rfl, hv⟩ := hrel
        have V := Lib.hid hv
        clear hv
        by_cases hlt : k < m
        · have hkl : k < r.backs.length := by rw [HL.out.1]; exact hlt
          obtain ⟨g, o, rfl, hg, hgG, c0, c1, c2⟩ := (BkArr.kept HA.out V.out.kept (by simp)).at (k := k) hkl
          have Hsn := Lib.hid (show (r.backs.take (k + 1)).flatMap (backB v) = (r.backs.take k).flatMap (backB v) ++ backB v (r.backs[k]'hkl) by rw [List.take_succ_eq_append_getElem hkl, List.flatMap_append, List.flatMap_cons, List.flatMap_nil, List.append_nil])
          have hbl : ((r.backs.take k).flatMap (backB v)).length ≤ 7000 := by
            rw [backsB_len, List.length_take]
            have h7 : (if 2 ≤ v then 7 else 6) ≤ 7 := by split <;> omega
            exact Nat.le_trans (Nat.mul_le_mul (Nat.min_le_left _ _) h7) (by omega)
          generalize hxs : (r.backs.take k).flatMap (backB v) = xs at *
          clear hxs
          generalize r.backs[k]'hkl = bk at *
          clear hkl
          have V0' := Lib.hid (V.out.go ((Kept.refl [] wr).alloc (.cells #[.int .i64 bk.id, .int .u32 (bk.addr.toNat : Nat), .int .i64 bk.weight] 78)))
          have Hbk := Lib.hid (Blk.new wr 78 #[.int .i64 bk.id, .int .u32 (bk.addr.toNat : Nat), .int .i64 bk.weight])
          have i0 : (0 : Int) ≤ (k : Int) := by omega
          have i1 : (k : Int) < (m : Int) := by omega
          go_wp2_with fail
          refine (VU16 V0'.out bk.id (by simp [beK_len]; omega)).mono ?_
          rintro e w3 ⟨rfl, hv3, ha3⟩
          have hc3 := (ha3 _ _ _ (by decide) (by decide) Hbk.out).cell
          have A3 := Lib.hid ha3
          have V3 := Lib.hid hv3
          clear hv3 ha3
          go_wp2_with fail
          clear hc3
          refine (VU32 V3.out _ bk.addr.toNat rfl bk.addr.toNat_lt (by simp [beK_len]; omega)).mono ?_
          rintro e w4 ⟨rfl, hv4, ha4⟩
          have hc4 := ((A3.out.trans ha4) _ _ _ (by decide) (by decide) Hbk.out).cell
          have V4 := Lib.hid hv4
          clear hv4 ha4
          go_wp2_with fail
          clear hc4
          refine (VU8 V4.out bk.weight (by simp [beK_len]; omega)).mono ?_
          rintro e w5 ⟨rfl, hv5, ha5⟩
          have V5 := Lib.hid hv5
          clear hv5 ha5
          go_wp2
          go_roundg (m - (k + 1))
          case measure => omega
          case rel => exact ⟨k + 1, by omega, rfl, by go_num, by rw [Hsn.out, Hbb.out]; simpa [u8B, u16B] using V5.out⟩
        · obtain rfl : k = m := by omega
          go_wp2
          go_end0
          refine ⟨rfl, ?_⟩
          have hv := V.out
          rw [List.take_of_length_le (by rw [HL.out.1]; omega)] at hv
          rw [hp.out, HL.out.1]
          simpa [u8B, u16B, u32B] using hv
    · have hbb : ∀ bk, backB v bk = u16B bk.id ++ beK bk.addr.toNat 4 4 := fun bk => by simp [backB, v2]
      have Hbb := Lib.hid hbb
      clear hbb
      have hp := Lib.hid (show bodyR r v = u32B r.gen ++ u8B r.backs.length ++ r.backs.flatMap (backB v) by simp [bodyR, k3])
      clear k3
      go_enter Tryz.func58, Tryz.ntmps58
      go_wp2_with fail
      refine (VU32 V0.out _ (u32n r.gen) (wrap_u32n _) (u32n_lt _) (by simp; try omega)).mono ?_
      rintro e w1 ⟨rfl, hv, ha⟩
      have A1 := Lib.hid (A0.out.trans ha)
      clear hcx
      have hcx := (A1.out _ _ _ (by decide) (by decide) Hb.out).cell
      have V1 := Lib.hid hv
      clear hv ha
      go_wp2_with fail
      refine (VU8 V1.out (m : Int) (by simp [len_all]; try omega)).mono ?_
      rintro e w2 ⟨rfl, hv, ha⟩
      have A2 := Lib.hid (A1.out.trans ha)
      clear hcx
      have hcx := (A2.out _ _ _ (by decide) (by decide) Hb.out).cell
      have V2 := Lib.hid hv
      clear hv ha
      have B2 := Lib.hid (A2.out _ _ _ (by decide) (by decide) Hb.out)
      go_wp2
      clear hcx
      go_loopg [62] m (fun g i wr => ∃ k : Nat, k ≤ m ∧ g = m - k ∧ i = .int .i64 k ∧ WV W b (([] ++ beK (u32n r.gen) 4 4 ++ beK (nat64 (m : Int)) 1 1) ++ (r.backs.take k).flatMap (backB v)) wr)
      case atStart => exact ⟨0, by omega, by omega, rfl, by simpa using V2.out⟩
      case round =>
        obtain ⟨k, hk, rfl, rfl, hv⟩ := hrel
        have V := Lib.hid hv
        clear hv
        by_cases hlt : k < m
        · have hkl : k < r.backs.length := by rw [HL.out.1]; exact hlt
          obtain ⟨g, o, rfl, hg, hgG, c0, c1, c2⟩ := (BkArr.kept HA.out V.out.kept (by simp)).at (k := k) hkl
          have Hsn := Lib.hid (show (r.backs.take (k + 1)).flatMap (backB v) = (r.backs.take k).flatMap (backB v) ++ backB v (r.backs[k]'hkl) by rw [List.take_succ_eq_append_getElem hkl, List.flatMap_append, List.flatMap_cons, List.flatMap_nil, List.append_nil])
          have hbl : ((r.backs.take k).flatMap (backB v)).length ≤ 7000 := by
            rw [backsB_len, List.length_take]
            have h7 : (if 2 ≤ v then 7 else 6) ≤ 7 := by split <;> omega
            exact Nat.le_trans (Nat.mul_le_mul (Nat.min_le_left _ _) h7) (by omega)
          generalize hxs : (r.backs.take k).flatMap (backB v) = xs at *
          clear hxs
          generalize r.backs[k]'hkl = bk at *
          clear hkl
          have V0' := Lib.hid (V.out.go ((Kept.refl [] wr).alloc (.cells #[.int .i64 bk.id, .int .u32 (bk.addr.toNat : Nat), .int .i64 bk.weight] 78)))
          have Hbk := Lib.hid (Blk.new wr 78 #[.int .i64 bk.id, .int .u32 (bk.addr.toNat : Nat), .int .i64 bk.weight])
          have i0 : (0 : Int) ≤ (k : Int) := by omega
          have i1 : (k : Int) < (m : Int) := by omega
          go_wp2_with fail
          refine (VU16 V0'.out bk.id (by simp [beK_len]; omega)).mono ?_
          rintro e w3 ⟨rfl, hv3, ha3⟩
          have hc3 := (ha3 _ _ _ (by decide) (by decide) Hbk.out).cell
          have A3 := Lib.hid ha3
          have V3 := Lib.hid hv3
          clear hv3 ha3
          go_wp2_with fail
          clear hc3
          refine (VU32 V3.out _ bk.addr.toNat rfl bk.addr.toNat_lt (by simp [beK_len]; omega)).mono ?_
          rintro e w4 ⟨rfl, hv4, ha4⟩
          have hc4 := ((A3.out.trans ha4) _ _ _ (by decide) (by decide) Hbk.out).cell
          have V4 := Lib.hid hv4
          clear hv4 ha4
          go_wp2
          go_roundg (m - (k + 1))
          case measure => omega
          case rel => exact ⟨k + 1, by omega, rfl, by go_num, by rw [Hsn.out, Hbb.out]; simpa [u8B, u16B] using V4.out⟩
        · obtain rfl : k = m := by omega
          go_wp2
          go_end0
          refine ⟨rfl, ?_⟩
          have hv := V.out
          rw [List.take_of_length_le (by rw [HL.out.1]; omega)] at hv
          rw [hp.out, HL.out.1]
          simpa [u8B, u16B, u32B] using hv
  have b3 : (r.kind == 3) = false := by simp [k3]
  by_cases k4 : r.kind = 4
  · have b4 : (r.kind == 4) = true := by simp [k4]
    have hp := Lib.hid (show bodyR r v = u16B r.back ++ i64B r.until_ by simp [bodyR, k4])
    clear k4
    go_enter Tryz.func58, Tryz.ntmps58
    go_wp2_with fail
    refine (VU16 V0.out r.back (by simp; try omega)).mono ?_
    rintro e w1 ⟨rfl, hv, ha⟩
    have A1 := Lib.hid (A0.out.trans ha)
    clear hcx
    have hcx := (A1.out _ _ _ (by decide) (by decide) Hb.out).cell
    have V1 := Lib.hid hv
    clear hv ha
    go_wp2_with fail
    refine (VI64 V1.out r.until_ (by simp [len_all]; try omega)).mono ?_
    rintro e w2 ⟨rfl, hv, ha⟩
    have A2 := Lib.hid (A1.out.trans ha)
    clear hcx
    have hcx := (A2.out _ _ _ (by decide) (by decide) Hb.out).cell
    have V2 := Lib.hid hv
    clear hv ha
    go_wp2
    go_end0
    refine ⟨rfl, ?_⟩
    rw [hp.out]
    simpa [u8B, u16B, u32B, i64B] using V2.out
  have b4 : (r.kind == 4) = false := by simp [k4]
  by_cases k5 : r.kind = 5
  · have b5 : (r.kind == 5) = true := by simp [k5]
    have hp := Lib.hid (show bodyR r v = u16B r.back by simp [bodyR, k5])
    clear k5
    go_enter Tryz.func58, Tryz.ntmps58
    go_wp2_with fail
    refine (VU16 V0.out r.back (by simp; try omega)).mono ?_
    rintro e w1 ⟨rfl, hv, ha⟩
    have A1 := Lib.hid (A0.out.trans ha)
    clear hcx
    have hcx := (A1.out _ _ _ (by decide) (by decide) Hb.out).cell
    have V1 := Lib.hid hv
    clear hv ha
    go_wp2
    go_end0
    refine ⟨rfl, ?_⟩
    rw [hp.out]
    simpa [u8B, u16B, u32B, i64B] using V1.out
  have b5 : (r.kind == 5) = false := by simp [k5]
  by_cases k6 : r.kind = 6
  · have b6 : (r.kind == 6) = true := by simp [k6]
    have hp := Lib.hid (show bodyR r v = u32B r.count by simp [bodyR, k6])
    clear k6
    go_enter Tryz.func58, Tryz.ntmps58
    go_wp2_with fail
    refine (VU32 V0.out _ (u32n r.count) (wrap_u32n _) (u32n_lt _) (by simp; try omega)).mono ?_
    rintro e w1 ⟨rfl, hv, ha⟩
    have A1 := Lib.hid (A0.out.trans ha)
    clear hcx
    have hcx := (A1.out _ _ _ (by decide) (by decide) Hb.out).cell
    have V1 := Lib.hid hv
    clear hv ha
    go_wp2
    go_end0
    refine ⟨rfl, ?_⟩
    rw [hp.out]
    simpa [u8B, u16B, u32B, i64B] using V1.out
  have b6 : (r.kind == 6) = false := by simp [k6]
  have hp := Lib.hid (show bodyR r v = [] by simp [bodyR, k1, k2, k3, k4, k5, k6])
  clear k1 k2 k3 k4 k5 k6
  go_enter Tryz.func58, Tryz.ntmps58
  go_wp2
  go_end0
  refine ⟨rfl, ?_⟩
  rw [hp.out]
  simpa [u8B, u16B, u32B, i64B] using V0.out
end
section
open Go.RowKit Go.ChangeShapes Go.WideShapes Go.Deep
set_option maxRecDepth 100000
def encE (r : RecD) (v : Int) : Int := if verB v = true then (if mayR r = true then 0 else 1) else 10
def encF (r : RecD) (v : Int) : FrameD := if verB v = true ∧ mayR r = true then ⟨r.kind, v, bodyR r v⟩ else default
theorem bodyR_len {r : RecD} (h : mayR r = true) (v : Int) : (bodyR r v).length ≤ 200 := by
  unfold bodyR
  repeat' split
  all_goals simp [tupB_len, u16B_len, u32B_len, i64B_len, u8B_len]
  rename_i h3
  have hl : r.backs.length ≤ 16 := by
    have : (inB r.gen 1000000 && (decide (r.backs.length ≤ 16) && r.backs.all mayB)) = true := by simpa [mayR, h3] using h
    simp at this; exact this.2.1
  have := backsB_len v r.backs
  simp only [List.length_flatMap] at this ⊢
  rw [this]
  split <;> omega
set_option maxHeartbeats 3200000 in
theorem Encode_any (w : World) {G : List Nat} {A : Option Addr} {m c : Nat} (r : RecD) (v : Int) (h : SmallB w G A m c r.backs) (hm : m ≤ 1000) :
    Calls Tryz.prog 22 #[.agg #[.int .i64 r.kind, .int .u32 (r.tup.src.toNat : Nat), .int .u32 (r.tup.dst.toNat : Nat), .int .i64 r.tup.proto, .int .i64 r.tup.sport, .int .i64 r.tup.dport, .int .i64 r.fb, .int .i64 r.fg, .int .i64 r.fs, .int .i64 r.gen, .slice A m c, .int .i64 r.back, .int .i64 r.until_, .int .i64 r.count], .int .i64 v] w fun e w' => ∃ sl, e = .returned (.tuple #[.agg #[.int .i64 (encF r v).kind, .int .i64 (encF r v).ver, sl], .int .i64 (encE r v)]) ∧ New w 5 1 sl (encF r v).body.length (u8s (encF r v).body) w' := by
  have hk0 : Kept [] w ((w.alloc (.cells #[.int .i64 r.kind, .int .u32 (r.tup.src.toNat : Nat), .int .u32 (r.tup.dst.toNat : Nat), .int .i64 r.tup.proto, .int .i64 r.tup.sport, .int .i64 r.tup.dport, .int .i64 r.fb, .int .i64 r.fg, .int .i64 r.fs, .int .i64 r.gen, .slice A m c, .int .i64 r.back, .int .i64 r.until_, .int .i64 r.count] 43)).alloc (.cells #[.int .i64 0, .int .i64 0, .slice none 0 0] 45)) := by (repeat (first | exact Kept.refl _ _ | apply Kept.alloc | apply Kept.drew))
  have Bx := Lib.hid (show Blk ((w.alloc (.cells #[.int .i64 r.kind, .int .u32 (r.tup.src.toNat : Nat), .int .u32 (r.tup.dst.toNat : Nat), .int .i64 r.tup.proto, .int .i64 r.tup.sport, .int .i64 r.tup.dport, .int .i64 r.fb, .int .i64 r.fg, .int .i64 r.fs, .int .i64 r.gen, .slice A m c, .int .i64 r.back, .int .i64 r.until_, .int .i64 r.count] 43)).alloc (.cells #[.int .i64 0, .int .i64 0, .slice none 0 0] 45)) w.heap.size 43 #[.int .i64 r.kind, .int .u32 (r.tup.src.toNat : Nat), .int .u32 (r.tup.dst.toNat : Nat), .int .i64 r.tup.proto, .int .i64 r.tup.sport, .int .i64 r.tup.dport, .int .i64 r.fb, .int .i64 r.fg, .int .i64 r.fs, .int .i64 r.gen, .slice A m c, .int .i64 r.back, .int .i64 r.until_, .int .i64 r.count] from by (repeat (first | (apply Blk.new'; simp; done) | apply Blk.alloc | apply Blk.drew)))
  have Br := Lib.hid (show Blk ((w.alloc (.cells #[.int .i64 r.kind, .int .u32 (r.tup.src.toNat : Nat), .int .u32 (r.tup.dst.toNat : Nat), .int .i64 r.tup.proto, .int .i64 r.tup.sport, .int .i64 r.tup.dport, .int .i64 r.fb, .int .i64 r.fg, .int .i64 r.fs, .int .i64 r.gen, .slice A m c, .int .i64 r.back, .int .i64 r.until_, .int .i64 r.count] 43)).alloc (.cells #[.int .i64 0, .int .i64 0, .slice none 0 0] 45)) (w.heap.size + 1) 45 #[.int .i64 0, .int .i64 0, .slice none 0 0] from by (repeat (first | (apply Blk.new'; simp; done) | apply Blk.alloc | apply Blk.drew)))
  have H := Lib.hid h
  have Hk0 := Lib.hid hk0
  clear h hk0
  cases hv : verB v
  · have he := Lib.hid (show encE r v = 10 by simp [encE, hv])
    have hf := Lib.hid (show encF r v = default by simp [encF, hv])
    go_enter Tryz.func22, Tryz.ntmps22
    go_wp2_with (go_at_call 56; refine (version_any _ _).mono ?_; rintro e w' ⟨rfl, rfl⟩; rw [hv])
    refine bodyPost_ret (by simp [results, Tryz.results22, go_sem]; rfl) rfl ?_
    rw [he.out, hf.out]
    exact ⟨_, rfl, Own.nil _ _ _, (by (repeat (first | exact Kept.refl _ _ | apply Kept.alloc | apply Kept.drew))), by simp [rowOf, Value.ownBlock]⟩
  · cases hy : mayR r
    · have he := Lib.hid (show encE r v = 1 by simp [encE, hv, hy])
      have hf := Lib.hid (show encF r v = default by simp [encF, hy])
      go_enter Tryz.func22, Tryz.ntmps22
      go_wp2_with (first
        | (go_at_call 56; refine (version_any _ _).mono ?_; rintro e w' ⟨rfl, rfl⟩; rw [hv])
        | (go_at_call 57; refine (May_any _ r ⟨BkArr.kept H.out.1 Hk0.out (by simp), fun k hk => Nat.lt_of_lt_of_le (H.out.2.1 k hk) Hk0.out.size, H.out.2.2⟩).mono ?_; rintro e w1 ⟨rfl, hk1⟩; rw [hy]
           have hb1 := Br.out.kept hk1 (by simp)
           have hc1 := hb1.cell
           have hf1 := hb1.frozen
           have Hb1 := Lib.hid hb1
           have Hk1 := Lib.hid (Hk0.out.trans hk1 (by simp))
           clear hk1 hb1))
      obtain ⟨r1, r2, r3⟩ := Hb1.out.cells3 (.int .i64 0) (.int .i64 0) (.slice none 0 0)
      refine bodyPost_ret (by simp [results, Tryz.results22, go_sem, r1, r2, r3]; rfl) rfl ?_
      rw [he.out, hf.out]
      exact ⟨_, rfl, Own.nil _ _ _, Hk1.out.cells3 (by omega) _ _ _, by simp [rowOf, Value.ownBlock]⟩
    · have he := Lib.hid (show encE r v = 0 by simp [encE, hv, hy])
      have hf := Lib.hid (show encF r v = ⟨r.kind, v, bodyR r v⟩ by simp [encF, hv, hy])
      have Hbl := Lib.hid (bodyR_len hy v)
      go_enter Tryz.func22, Tryz.ntmps22
      go_wp2_with (first
        | (go_at_call 56; refine (version_any _ _).mono ?_; rintro e w' ⟨rfl, rfl⟩; rw [hv])
        | (go_at_call 57; refine (May_any _ r ⟨BkArr.kept H.out.1 Hk0.out (by simp), fun k hk => Nat.lt_of_lt_of_le (H.out.2.1 k hk) Hk0.out.size, H.out.2.2⟩).mono ?_; rintro e w1 ⟨rfl, hk1⟩; rw [hy]
           have hcx := ((Bx.out.kept hk1 (by simp)).alloc (.cells #[.slice none 0 0] 111)).cell
           have Bx1 := Lib.hid (Bx.out.kept hk1 (by simp))
           have Br1 := Lib.hid (Br.out.kept hk1 (by simp))
           have hlt1 : w.heap.size + 1 < w1.heap.size := Br1.out.lt
           have Hk1 := Lib.hid (Hk0.out.trans hk1 (by simp))
           clear hk1)
        | (go_at_call 58
           refine (write_any (WV.start (Kept.refl [] w1)) r v (BkArr.kept H.out.1 Hk1.out (by simp)) hm).mono ?_
           rintro e w2 ⟨rfl, hv2⟩
           clear hcx
           have hb2 := Bx1.out.kept hv2.kept (by simp)
           have hk2 : w2.cell? ⟨w.heap.size, 0, none⟩ = some (.int .i64 r.kind) := by simpa using hb2.cell 0
           have Br2 := Lib.hid (Br1.out.kept hv2.kept (by simp))
           have Hk2 := Lib.hid (Hk1.out.trans hv2.kept (by simp))
           have Hv2 := Lib.hid hv2
           have hv2sz : w1.heap.size ≤ w2.heap.size := hv2.kept.size
           clear hv2 hb2))
      go_region_held3 (fun w' => w'.cell? ⟨w.heap.size, 0, none⟩ = some (.int .i64 r.kind)) (first | go_keep | (simp [go_sem, hx3]; done))
        ((go_at_call 59
          refine (VBytes (Hv2.out.go (Kept.refl [] _).drew) (by have := Hbl.out; omega)).mono ?_
          rintro e w3 ⟨A3, n3, c3, rfl, hn3, hn, -, hk3'⟩
          have hk3 := (Kept.refl [] w2).drew.trans hk3' (by simp)
          have hx3 : w3.cell? ⟨w.heap.size, 0, none⟩ = some (.int .i64 r.kind) := (hk3.cell (p := ⟨w.heap.size, 0, none⟩) (Nat.lt_of_lt_of_le (Bx1.out.lt) hv2sz) (by simp)).trans hk2
          have hb3 := Br2.out.kept hk3 (by simp)
          have hc3 := hb3.cell
          have hf3 := hb3.frozen
          have Hb3 := Lib.hid hb3
          have Hk3 := Lib.hid (Hk2.out.trans hk3 (by simp))
          have Hn := Lib.hid hn
          have Hn3 := Lib.hid hn3
          clear hk3 hk3' hb3 hn hn3))
      go_wp2
      obtain ⟨r1, r2, r3⟩ := Hb3.out.cells3 (.int .i64 r.kind) (.int .i64 v) (.slice A3 n3 c3)
      refine bodyPost_ret (by simp [results, Tryz.results22, go_sem, r1, r2, r3]; rfl) rfl ?_
      rw [he.out, hf.out]
      have hn := Hn.out.cast Hn3.out.symm rfl
      refine ⟨.slice A3 n3 c3, rfl, hn.1.kept (((((Kept.refl [w.heap.size + 1] w3).setCell (p := ⟨w.heap.size + 1, 0, none⟩) (.inl (by simp)) (.int .i64 r.kind)).setCell (p := ⟨w.heap.size + 1, 1, none⟩) (.inl (by simp)) (.int .i64 v)).setCell (p := ⟨w.heap.size + 1, 2, none⟩) (.inl (by simp)) (.slice A3 n3 c3))) (fun k hk hm => ?_), Hk3.out.cells3 (by omega) _ _ _, fun k hk => ?_⟩
      · have := hn.2.2 k hk
        simp at hm
        omega
      · have := hn.2.2 k hk
        omega
end
section
open Go.RowKit
set_option maxRecDepth 100000
theorem in3 (r : RecD) : inR r 3 = plainR r := by
  unfold inR; rw [if_neg (by simp [verB])]; simp
theorem encF_yes {r : RecD} {v : Int} (hv : verB v = true) (hy : mayR r = true) : encF r v = ⟨r.kind, v, bodyR r v⟩ := by simp [encF, hv, hy]
theorem back_enc {r : RecD} {v : Int} (hv : verB v = true) (hy : mayR r = true) : decE (encF r v) = 0 ∧ decR (encF r v) = inR r v := by
  rw [encF_yes hv hy]
  have e := dec_enc hv hy 17 (by omega)
  have hg : goodR 17 r.kind v (bodyR r v) = true := by
    unfold goodR
    rw [e]
    simp [may_in hv hy]
  simp [decE, decR, hv, hg, e]
end
end Go.Proofs.YtkacghjglicjiaaGreat
