
/-
  Records as they are read from a format: the contracts of record.In and of the reference's In.
-/
import Derived.Test.YtoibecclilmllaaRecK
import Derived.Test.YtoibecclilmllaaRecC
namespace Go.Proofs.Ytoibecclilmllaa
open Go.RowKit Go.ChangeShapes Go.WideShapes Go.Deep
set_option linter.unusedVariables false

theorem flat_set {α : Type} {n : Nat} (u : α) : ∀ {css : List (List α)}, (∀ cs ∈ css, cs.length = n) → ∀ (i j : Nat) (cs : List α), css[i]? = some cs → j < n → css.flatten.set (i * n + j) u = (css.set i (cs.set j u)).flatten
  | [], _, i, j, cs, h, _ => by simp at h
  | c :: css, hl, 0, j, cs, h, hj => by
    simp at h; subst h
    rw [List.set_cons_zero, List.flatten_cons, List.flatten_cons, Nat.zero_mul, Nat.zero_add, List.set_append_left _ _ (by rw [hl c (by simp)]; omega)]
  | c :: css, hl, i + 1, j, cs, h, hj => by
    have hc := hl c (by simp)
    rw [List.set_cons_succ, List.flatten_cons, List.flatten_cons, List.set_append_right _ _ (by rw [hc, Nat.succ_mul]; omega), hc, Nat.succ_mul, show i * n + n + j - n = i * n + j by omega]
    rw [flat_set u (fun c hc => hl c (by simp [hc])) i j cs (by simpa using h) hj]
/-- one element's third cell is stored -/
theorem BkV.weigh {W w : World} {A : Option Addr} {m c : Nat} {l : List BackD} (h : BkV W w (.slice A m c) l) {k : Nat} (hk : k < l.length) (x : Int) :
    ∃ g, A = some ⟨g, 0, none⟩ ∧ g < w.heap.size ∧ w.cell? ⟨g, k * 3 + 2, none⟩ = some (.int .i64 l[k].weight) ∧ w.frozen? ⟨g, k * 3 + 2, none⟩ = false ∧ W.heap.size ≤ g ∧
      BkV W (w.setCell ⟨g, k * 3 + 2, none⟩ (.int .i64 x)) (.slice A m c) (l.set k { l[k] with weight := x }) ∧ Kept [g] w (w.setCell ⟨g, k * 3 + 2, none⟩ (.int .i64 x)) ∧ ∀ g' t cs, Blk w g' t cs → 45 ≠ t → Blk (w.setCell ⟨g, k * 3 + 2, none⟩ (.int .i64 x)) g' t cs := by
  obtain ⟨G, ha, -⟩ := LV.arr BkOk h
  obtain ⟨g1, o1, rfl, hlt1, hg1, c0, c1, c2⟩ := BkArr.at ha hk
  obtain ⟨css, G2, hx⟩ := h
  have hown := hx.own
  have hne : ∀ g' t cs, Blk w g' t cs → 45 ≠ t → g' ∉ rowOf (.slice (some ⟨g1, o1, none⟩) m c) := fun g' t cs hb ht => hx.own.ne_blk hb ht
  obtain ⟨g, cap, cur, hv, hbase, hg, r⟩ := hown.2.resolve_left (by rintro ⟨e, _⟩; cases e)
  injection hv with e1 e2 e3
  injection e1 with e1
  injection e1 with e4 e5
  subst e4 e5 e2 e3
  have hl3 := hx.decs.lens BkOk
  have hk' : k < css.length := by rw [hx.decs.1]; exact hk
  have hcs : css[k]? = some css[k] := List.getElem?_eq_getElem hk'
  have hck : css[k] = [.int .i64 l[k].id, .int .u32 (l[k].addr.toNat : Nat), .int .i64 l[k].weight] := hx.decs.2 k _ _ hcs (List.getElem?_eq_getElem hk)
  have hs := World.ownsRow.stored hx.own (k * 3 + 2) (.int .i64 x)
  have hK : Kept [g1] w (w.setCell ⟨g1, k * 3 + 2, none⟩ (.int .i64 x)) := (Kept.refl _ _).setCell (.inl (by simp)) _
  have hnew : W.heap.size ≤ g1 := hx.new g1 (by simp [rowOf, Value.ownBlock])
  refine ⟨g1, rfl, hlt1, by simpa using c2, ?_, hnew, ?_, hK, fun g' t cs hb ht => hb.kept hK (by
    have := hne g' t cs hb ht
    simpa [rowOf, Value.ownBlock, eq_comm] using this)⟩
  · have hb : Blk w g1 45 cur := hg
    exact hb.frozen _
  · refine ⟨css.set k [.int .i64 l[k].id, .int .u32 (l[k].addr.toNat : Nat), .int .i64 x], [], ?_, hx.new, ⟨by simp [hx.decs.1], fun i cs a hi ha => ?_⟩, by simp, hx.keptW.trans hK (fun i hi => .inr (by simp at hi; subst hi; exact hnew))⟩
    · have e := flat_set (.int .i64 x) hl3 k 2 _ hcs (by omega)
      rw [hck] at e
      have hlen : (l.set k { l[k] with weight := x }).length = l.length := by simp
      rw [hlen]
      have h1 := hs.1
      rw [e] at h1
      exact h1
    · by_cases hik : k = i
      · subst hik
        rw [List.getElem?_set_self hk'] at hi
        rw [List.getElem?_set_self hk] at ha
        injection hi with hi
        injection ha with ha
        subst hi ha
        rfl
      · rw [List.getElem?_set_ne hik] at hi ha
        exact hx.decs.2 i cs a hi ha
/-- the first k made light -/
def lightK (k : Nat) (l : List BackD) : List BackD := (l.take k).map light1 ++ l.drop k
theorem lightK_zero (l : List BackD) : lightK 0 l = l := rfl
theorem lightK_len (k : Nat) (l : List BackD) : (lightK k l).length = l.length := by
  simp [lightK]; omega
theorem lightK_all {k : Nat} {l : List BackD} (h : l.length ≤ k) : lightK k l = l.map light1 := by
  simp [lightK, List.take_of_length_le h, List.drop_of_length_le h]
theorem lightK_get {k : Nat} {l : List BackD} (h : k < l.length) : (lightK k l)[k]'(by rw [lightK_len]; exact h) = l[k] := by
  simp only [lightK]
  rw [List.getElem_append_right (by simp; omega)]
  simp [Nat.min_eq_left (Nat.le_of_lt h)]
theorem lightK_succ {k : Nat} {l : List BackD} (h : k < l.length) : (lightK k l).set k { l[k] with weight := 1 } = lightK (k + 1) l := by
  unfold lightK
  rw [List.set_append_right _ _ (by simp; omega)]
  have e : k - ((l.take k).map light1).length = 0 := by simp; omega
  rw [e, ← List.getElem_cons_drop (h := h), List.set_cons_zero]
  rw [List.take_succ_eq_append_getElem h]
  simp only [List.map_append, List.append_assoc, List.map_cons, List.map_nil, List.cons_append, List.nil_append, light1]
theorem inR_of {r : RecD} {v : Int} (hv : verB v = true) : inR r v = { plainR r with fg := if v < 2 then 0 else (plainR r).fg, fs := if v < 3 then 0 else (plainR r).fs, backs := if v < 2 then (plainR r).backs.map light1 else (plainR r).backs } := by
  unfold inR; rw [if_neg (by simp [hv])]
theorem plain_no {r : RecD} (h : ¬ r.kind = 1) : (plainR r).fg = 0 ∧ (plainR r).fs = 0 := by
  unfold plainR
  rw [if_neg h]
  repeat' split
  all_goals exact ⟨rfl, rfl⟩
theorem BkV.cast {W w : World} {v : Value} {l l' : List BackD} (h : BkV W w v l) (e : l = l') : BkV W w v l' := e ▸ h
theorem inR_none {r : RecD} {v : Int} (hv : verB v = false) : inR r v = default := by simp [inR, hv]

set_option maxHeartbeats 6400000 in
set_option maxRecDepth 100000 in
theorem In_any (w : World) {G : List Nat} {A : Option Addr} {m c : Nat} (r : RecD) (v : Int) (h : SmallB w G A m c r.backs) :
    Calls Try.prog 13 #[.agg #[.int .i64 r.kind, .int .u32 (r.tup.src.toNat : Nat), .int .u32 (r.tup.dst.toNat : Nat), .int .i64 r.tup.proto, .int .i64 r.tup.sport, .int .i64 r.tup.dport, .int .i64 r.fb, .int .i64 r.fg, .int .i64 r.fs, .int .i64 r.gen, .slice A m c, .int .i64 r.back, .int .i64 r.until_, .int .i64 r.count], .int .i64 v] w fun e w' => ∃ sl, e = .returned (.agg #[.int .i64 (inR r v).kind, .int .u32 ((inR r v).tup.src.toNat : Nat), .int .u32 ((inR r v).tup.dst.toNat : Nat), .int .i64 (inR r v).tup.proto, .int .i64 (inR r v).tup.sport, .int .i64 (inR r v).tup.dport, .int .i64 (inR r v).fb, .int .i64 (inR r v).fg, .int .i64 (inR r v).fs, .int .i64 (inR r v).gen, sl, .int .i64 (inR r v).back, .int .i64 (inR r v).until_, .int .i64 (inR r v).count]) ∧ BkV w w' sl (inR r v).backs := by
  have hk0 : Kept [] w ((w.alloc (.cells #[.int .i64 r.kind, .int .u32 (r.tup.src.toNat : Nat), .int .u32 (r.tup.dst.toNat : Nat), .int .i64 r.tup.proto, .int .i64 r.tup.sport, .int .i64 r.tup.dport, .int .i64 r.fb, .int .i64 r.fg, .int .i64 r.fs, .int .i64 r.gen, .slice A m c, .int .i64 r.back, .int .i64 r.until_, .int .i64 r.count] 29)).alloc (.cells #[.int .i64 0, .int .u32 0, .int .u32 0, .int .i64 0, .int .i64 0, .int .i64 0, .int .i64 0, .int .i64 0, .int .i64 0, .int .i64 0, .slice none 0 0, .int .i64 0, .int .i64 0, .int .i64 0] 29)) := by (repeat (first | exact Kept.refl _ _ | apply Kept.alloc | apply Kept.drew))
  have B := Lib.hid (show Blk ((w.alloc (.cells #[.int .i64 r.kind, .int .u32 (r.tup.src.toNat : Nat), .int .u32 (r.tup.dst.toNat : Nat), .int .i64 r.tup.proto, .int .i64 r.tup.sport, .int .i64 r.tup.dport, .int .i64 r.fb, .int .i64 r.fg, .int .i64 r.fs, .int .i64 r.gen, .slice A m c, .int .i64 r.back, .int .i64 r.until_, .int .i64 r.count] 29)).alloc (.cells #[.int .i64 0, .int .u32 0, .int .u32 0, .int .i64 0, .int .i64 0, .int .i64 0, .int .i64 0, .int .i64 0, .int .i64 0, .int .i64 0, .slice none 0 0, .int .i64 0, .int .i64 0, .int .i64 0] 29)) (w.heap.size + 1) 29 #[.int .i64 0, .int .u32 0, .int .u32 0, .int .i64 0, .int .i64 0, .int .i64 0, .int .i64 0, .int .i64 0, .int .i64 0, .int .i64 0, .slice none 0 0, .int .i64 0, .int .i64 0, .int .i64 0] from by (repeat (first | (apply Blk.new'; simp; done) | apply Blk.alloc | apply Blk.drew)))
  have P := Lib.hid (show Blk ((w.alloc (.cells #[.int .i64 r.kind, .int .u32 (r.tup.src.toNat : Nat), .int .u32 (r.tup.dst.toNat : Nat), .int .i64 r.tup.proto, .int .i64 r.tup.sport, .int .i64 r.tup.dport, .int .i64 r.fb, .int .i64 r.fg, .int .i64 r.fs, .int .i64 r.gen, .slice A m c, .int .i64 r.back, .int .i64 r.until_, .int .i64 r.count] 29)).alloc (.cells #[.int .i64 0, .int .u32 0, .int .u32 0, .int .i64 0, .int .i64 0, .int .i64 0, .int .i64 0, .int .i64 0, .int .i64 0, .int .i64 0, .slice none 0 0, .int .i64 0, .int .i64 0, .int .i64 0] 29)) w.heap.size 29 #[.int .i64 r.kind, .int .u32 (r.tup.src.toNat : Nat), .int .u32 (r.tup.dst.toNat : Nat), .int .i64 r.tup.proto, .int .i64 r.tup.sport, .int .i64 r.tup.dport, .int .i64 r.fb, .int .i64 r.fg, .int .i64 r.fs, .int .i64 r.gen, .slice A m c, .int .i64 r.back, .int .i64 r.until_, .int .i64 r.count] from by (repeat (first | (apply Blk.new'; simp; done) | apply Blk.alloc | apply Blk.drew)))
  have H : Hid (SmallB ((w.alloc (.cells #[.int .i64 r.kind, .int .u32 (r.tup.src.toNat : Nat), .int .u32 (r.tup.dst.toNat : Nat), .int .i64 r.tup.proto, .int .i64 r.tup.sport, .int .i64 r.tup.dport, .int .i64 r.fb, .int .i64 r.fg, .int .i64 r.fs, .int .i64 r.gen, .slice A m c, .int .i64 r.back, .int .i64 r.until_, .int .i64 r.count] 29)).alloc (.cells #[.int .i64 0, .int .u32 0, .int .u32 0, .int .i64 0, .int .i64 0, .int .i64 0, .int .i64 0, .int .i64 0, .int .i64 0, .int .i64 0, .slice none 0 0, .int .i64 0, .int .i64 0, .int .i64 0] 29)) G A m c r.backs) := Lib.hid ⟨BkArr.kept h.1 hk0 (by simp), fun k hk => Nat.lt_of_lt_of_le (h.2.1 k hk) hk0.size, h.2.2⟩
  have K := Lib.hid hk0
  clear h hk0
  cases hv : verB v
  · have hr := Lib.hid (inR_none (r := r) hv)
    go_enter Try.func13, Try.ntmps13
    go_wp2_with (first
      | (go_at_call 29; refine (version_any _ _).mono ?_; rintro e w' ⟨rfl, rfl⟩; rw [hv])
      | ((with_reducible show wpList _ _ _ ({ dst := none, op := Op.store 29 (.tmp 4) (.tmp 10), type := _, pos := _, after := _, guard := _ } :: _) _ _); refine wpList_put (t := 29) rfl 29 (.tmp 4) (.tmp 10) rfl _ (by rfl) (by rfl) (by exact B.out) (by rfl) (by kernel_rfl) (by simp [Value.oneCell']) ?_; intro w9 hb9 hk9; have Hb9 := Lib.hid hb9; have Hk9 := Lib.hid hk9; clear hb9 hk9))
    refine bodyPost_ret (results_cell (t := 29) Try.results13 (by rfl) Hb9.out _ Try.underlying29 rfl (by kernel_rfl)) rfl ?_
    rw [hr.out]
    exact ⟨_, rfl, LV.nil (K.out.trans Hk9.out (fun i hi => .inr (by simp at hi; omega)))⟩
  · obtain ⟨p, hp⟩ : ∃ p, plainR r = p := ⟨_, rfl⟩
    have hin := inR_of (r := r) hv
    have hno := plain_no (r := r)
    have hki := plain_kind r
    rw [hp] at hin hno hki
    have EP := Lib.hid hp
    have HI := Lib.hid hin
    have HV := Lib.hid hv
    have hv13 : v = 1 ∨ v = 2 ∨ v = 3 := by simp [verB] at hv; omega
    have HK := Lib.hid hki
    clear hp hin hki
    have hno : p.kind ≠ 1 → p.fg = 0 ∧ p.fs = 0 := fun h => hno (by rw [← HK.out]; exact h)
    have hways : (v < 2 ∧ v < 3 ∧ p.kind = 1) ∨ (¬ v < 2 ∧ v < 3 ∧ p.kind = 1) ∨ (¬ v < 2 ∧ ¬ v < 3 ∧ p.kind = 1) ∨ (v < 2 ∧ p.kind ≠ 1) ∨ (¬ v < 2 ∧ p.kind ≠ 1) := by omega
    clear hv13
    rcases hways with ⟨q2, q3, k1⟩ | ⟨q2, q3, k1⟩ | ⟨q2, q3, k1⟩ | ⟨q2, k1⟩ | ⟨q2, k1⟩
    · have hx : inR r v = { p with fg := 0, fs := 0, backs := p.backs.map light1 } := by
        rw [HI.out]
        simp [q2, q3]
      have HX := Lib.hid hx
      clear hx hno
      have b1 : (p.kind == 1) = true := by simp [k1]
      clear k1
      go_enter Try.func13, Try.ntmps13
      go_wp2_with (first
        | (go_at_call 29
           go_must (refine (version_any _ _).mono ?_)
           go_must (rintro e w' ⟨rfl, rfl⟩)
           go_must (rw [hv]))
        | (go_at_call 6
           go_must (refine (Plain_any _ r H.out).mono ?_)
           go_must (rintro e w1 ⟨sl, rfl, hS⟩)
           go_must (rw [EP.out] at hS ⊢)
           go_must (have B := Lib.hid (B.out.kept hS.kept (by simp)))
           go_must (have P := Lib.hid (P.out.kept hS.kept (by simp)))
           go_must (have S := Lib.hid (LV.wide hS K.out))
           go_must (obtain ⟨A3, m3, c3, rfl⟩ := BkV.form S.out)
           go_must (have hlt1 := B.out.lt)
           go_must (clear hS))
        | (with_reducible show wpList _ _ _ ({ dst := none, op := Op.store 29 (.tmp 5) (.tmp 12), type := _, pos := _, after := _, guard := _ } :: _) _ _
           go_must (refine wpList_put (t := 29) rfl 29 (.tmp 5) (.tmp 12) rfl _ (by rfl) (by rfl) (by (repeat (first | (apply Blk.new'; simp; done) | apply Blk.alloc | apply Blk.drew))) (by rfl) (by kernel_rfl) (by simp [Value.oneCell']) ?_)
           go_must (intro w3 h1 k1)
           go_must (have X := Lib.hid (show Blk w3 w1.heap.size 29 #[.int .i64 p.kind, .int .u32 (p.tup.src.toNat : Nat), .int .u32 (p.tup.dst.toNat : Nat), .int .i64 p.tup.proto, .int .i64 p.tup.sport, .int .i64 p.tup.dport, .int .i64 p.fb, .int .i64 p.fg, .int .i64 p.fs, .int .i64 p.gen, .slice A3 m3 c3, .int .i64 p.back, .int .i64 p.until_, .int .i64 p.count] from h1))
           go_must (have k2 : Kept [w1.heap.size] w1 w3 := ((Kept.refl _ w1).alloc _).trans k1 (fun i hi => .inl hi))
           go_must (have B := Lib.hid (B.out.kept k2 (by simp; omega)))
           go_must (have S := Lib.hid (BkV.far (LV.go BkOk S.out ((Kept.refl [] w1).alloc (.cells #[.int .i64 0, .int .u32 0, .int .u32 0, .int .i64 0, .int .i64 0, .int .i64 0, .int .i64 0, .int .i64 0, .int .i64 0, .int .i64 0, .slice none 0 0, .int .i64 0, .int .i64 0, .int .i64 0] 29))) k1 (by (repeat (first | (apply Blk.new'; simp; done) | apply Blk.alloc | apply Blk.drew))) (by decide) (by omega)))
           go_must (have hcx := X.out.cell)
           go_must (clear h1 k1 k2))
        | (with_reducible show wpList _ _ _ ({ dst := none, op := Op.store 3 (.tmp 21) _, type := _, pos := _, after := _, guard := _ } :: _) _ _
           go_must (refine wpList_putAt (t := 29) (v := .int .i64 0) rfl 3 (.tmp 21) _ rfl (by rfl) (by rfl) X.out (by simp [Value.cells]) (by kernel_rfl) (by simp [Value.cells, Value.oneCell']) ?_)
           go_must (intro w4 h1 k1)
           go_must (have S := Lib.hid (BkV.far S.out k1 X.out (by decide) (by omega)))
           go_must (have X := Lib.hid (show Blk w4 (w1.heap.size) 29 #[.int .i64 p.kind, .int .u32 (p.tup.src.toNat : Nat), .int .u32 (p.tup.dst.toNat : Nat), .int .i64 p.tup.proto, .int .i64 p.tup.sport, .int .i64 p.tup.dport, .int .i64 p.fb, .int .i64 0, .int .i64 p.fs, .int .i64 p.gen, .slice A3 m3 c3, .int .i64 p.back, .int .i64 p.until_, .int .i64 p.count] from h1))
           go_must (have B := Lib.hid (B.out.kept k1 (by simp <;> omega)))
           go_must (clear hcx)
           go_must (have hcx := X.out.cell)
           go_must (clear h1 k1))
        | (with_reducible show wpList _ _ _ ({ dst := none, op := Op.store 2 (.tmp 30) _, type := _, pos := _, after := _, guard := _ } :: _) _ _
           go_must (refine wpList_putAt (t := 29) (v := .int .i64 0) rfl 2 (.tmp 30) _ rfl (by rfl) (by rfl) X.out (by simp [Value.cells]) (by kernel_rfl) (by simp [Value.cells, Value.oneCell']) ?_)
           go_must (intro w5 h1 k1)
           go_must (have S := Lib.hid (BkV.far S.out k1 X.out (by decide) (by omega)))
           go_must (have X := Lib.hid (show Blk w5 (w1.heap.size) 29 #[.int .i64 p.kind, .int .u32 (p.tup.src.toNat : Nat), .int .u32 (p.tup.dst.toNat : Nat), .int .i64 p.tup.proto, .int .i64 p.tup.sport, .int .i64 p.tup.dport, .int .i64 p.fb, .int .i64 0, .int .i64 0, .int .i64 p.gen, .slice A3 m3 c3, .int .i64 p.back, .int .i64 p.until_, .int .i64 p.count] from h1))
           go_must (have B := Lib.hid (B.out.kept k1 (by simp <;> omega)))
           go_must (clear hcx)
           go_must (have hcx := X.out.cell)
           go_must (clear h1 k1)))
      have hlen := Lib.hid (show p.backs.length = m3 by obtain ⟨G3, ha, -⟩ := LV.arr BkOk S.out; exact (BkArr.len ha).1)
      have hm3 : (m3 : Int) ≤ 9223372036854775807 := by obtain ⟨G3, ha, -⟩ := LV.arr BkOk S.out; have := BkArr.len ha; unfold maxLen at this; omega
      have hsx := X.out.lt
      go_loopg [34] m3 (fun g i wr => ∃ k : Nat, k ≤ m3 ∧ g = m3 - k ∧ i = .int .i64 k ∧ Blk wr (w1.heap.size) 29 #[.int .i64 p.kind, .int .u32 (p.tup.src.toNat : Nat), .int .u32 (p.tup.dst.toNat : Nat), .int .i64 p.tup.proto, .int .i64 p.tup.sport, .int .i64 p.tup.dport, .int .i64 p.fb, .int .i64 0, .int .i64 0, .int .i64 p.gen, .slice A3 m3 c3, .int .i64 p.back, .int .i64 p.until_, .int .i64 p.count] ∧ Blk wr (w.heap.size + 1) 29 #[.int .i64 0, .int .u32 0, .int .u32 0, .int .i64 0, .int .i64 0, .int .i64 0, .int .i64 0, .int .i64 0, .int .i64 0, .int .i64 0, .slice none 0 0, .int .i64 0, .int .i64 0, .int .i64 0] ∧ BkV w wr (.slice A3 m3 c3) (lightK k p.backs))
      case atStart => exact ⟨0, by omega, by omega, rfl, X.out, B.out, S.out⟩
      case round =>
        obtain ⟨k, hk, rfl, rfl, hX, hB, hS⟩ := hrel
        have X := Lib.hid hX
        have B := Lib.hid hB
        have S := Lib.hid hS
        clear hX hB hS hcx
        have hcx := X.out.cell
        by_cases hlt : k < m3
        · have hkl : k < p.backs.length := by rw [hlen.out]; exact hlt
          have i0 : (0 : Int) ≤ (k : Int) := by omega
          have i1 : (k : Int) < (m3 : Int) := by omega
          obtain ⟨g, hA, hg, c2, f2, hnew, hS, hk2, hoff⟩ := BkV.weigh S.out (k := k) (by rw [lightK_len]; exact hkl) 1
          rw [lightK_get hkl] at c2
          have e := lightK_succ hkl
          have hS := BkV.cast hS (l' := lightK (k + 1) p.backs) (by rw [← e]; congr 1; rw [lightK_get hkl])
          subst hA
          have X := Lib.hid (hoff _ _ _ X.out (by decide))
          have B := Lib.hid (hoff _ _ _ B.out (by decide))
          have S := Lib.hid hS
          clear hS hoff hk2 e
          go_wp2
          go_roundg (m3 - (k + 1))
          case measure => omega
          case rel => exact ⟨k + 1, by omega, rfl, by go_num, X.out, B.out, S.out⟩
        · obtain rfl : m3 = k := by omega
          have i1 : ¬ (m3 : Int) < (m3 : Int) := by omega
          have S := Lib.hid (BkV.cast S.out (lightK_all (by rw [hlen.out]; omega)))
          go_wp2_with ((with_reducible show wpList _ _ _ ({ dst := none, op := Op.store 29 (.tmp 4) (.tmp 45), type := _, pos := _, after := _, guard := _ } :: _) _ _); refine wpList_put (t := 29) rfl 29 (.tmp 4) (.tmp 45) rfl _ (by rfl) (by rfl) (by exact B.out) (by rfl) (by kernel_rfl) (by simp [Value.oneCell']) ?_; intro w9 hb9 hk9; have Hb9 := Lib.hid hb9; have Hk9 := Lib.hid hk9; clear hb9 hk9)
          refine bodyPost_ret (results_cell (t := 29) Try.results13 (by rfl) Hb9.out _ Try.underlying29 rfl (by kernel_rfl)) rfl ?_
          rw [HX.out]
          exact ⟨_, rfl, BkV.far S.out Hk9.out B.out (by decide) (by omega)⟩
    · have hx : inR r v = { p with fg := p.fg, fs := 0, backs := p.backs } := by
        rw [HI.out]
        simp [q2, q3]
      have HX := Lib.hid hx
      clear hx hno
      have b1 : (p.kind == 1) = true := by simp [k1]
      clear k1
      go_enter Try.func13, Try.ntmps13
      go_wp2_with (first
        | (go_at_call 29
           go_must (refine (version_any _ _).mono ?_)
           go_must (rintro e w' ⟨rfl, rfl⟩)
           go_must (rw [hv]))
        | (go_at_call 6
           go_must (refine (Plain_any _ r H.out).mono ?_)
           go_must (rintro e w1 ⟨sl, rfl, hS⟩)
           go_must (rw [EP.out] at hS ⊢)
           go_must (have B := Lib.hid (B.out.kept hS.kept (by simp)))
           go_must (have P := Lib.hid (P.out.kept hS.kept (by simp)))
           go_must (have S := Lib.hid (LV.wide hS K.out))
           go_must (obtain ⟨A3, m3, c3, rfl⟩ := BkV.form S.out)
           go_must (have hlt1 := B.out.lt)
           go_must (clear hS))
        | (with_reducible show wpList _ _ _ ({ dst := none, op := Op.store 29 (.tmp 5) (.tmp 12), type := _, pos := _, after := _, guard := _ } :: _) _ _
           go_must (refine wpList_put (t := 29) rfl 29 (.tmp 5) (.tmp 12) rfl _ (by rfl) (by rfl) (by (repeat (first | (apply Blk.new'; simp; done) | apply Blk.alloc | apply Blk.drew))) (by rfl) (by kernel_rfl) (by simp [Value.oneCell']) ?_)
           go_must (intro w3 h1 k1)
           go_must (have X := Lib.hid (show Blk w3 w1.heap.size 29 #[.int .i64 p.kind, .int .u32 (p.tup.src.toNat : Nat), .int .u32 (p.tup.dst.toNat : Nat), .int .i64 p.tup.proto, .int .i64 p.tup.sport, .int .i64 p.tup.dport, .int .i64 p.fb, .int .i64 p.fg, .int .i64 p.fs, .int .i64 p.gen, .slice A3 m3 c3, .int .i64 p.back, .int .i64 p.until_, .int .i64 p.count] from h1))
           go_must (have k2 : Kept [w1.heap.size] w1 w3 := ((Kept.refl _ w1).alloc _).trans k1 (fun i hi => .inl hi))
           go_must (have B := Lib.hid (B.out.kept k2 (by simp; omega)))
           go_must (have S := Lib.hid (BkV.far (LV.go BkOk S.out ((Kept.refl [] w1).alloc (.cells #[.int .i64 0, .int .u32 0, .int .u32 0, .int .i64 0, .int .i64 0, .int .i64 0, .int .i64 0, .int .i64 0, .int .i64 0, .int .i64 0, .slice none 0 0, .int .i64 0, .int .i64 0, .int .i64 0] 29))) k1 (by (repeat (first | (apply Blk.new'; simp; done) | apply Blk.alloc | apply Blk.drew))) (by decide) (by omega)))
           go_must (have hcx := X.out.cell)
           go_must (clear h1 k1 k2))
        | (with_reducible show wpList _ _ _ ({ dst := none, op := Op.store 2 (.tmp 30) _, type := _, pos := _, after := _, guard := _ } :: _) _ _
           go_must (refine wpList_putAt (t := 29) (v := .int .i64 0) rfl 2 (.tmp 30) _ rfl (by rfl) (by rfl) X.out (by simp [Value.cells]) (by kernel_rfl) (by simp [Value.cells, Value.oneCell']) ?_)
           go_must (intro w5 h1 k1)
           go_must (have S := Lib.hid (BkV.far S.out k1 X.out (by decide) (by omega)))
           go_must (have X := Lib.hid (show Blk w5 (w1.heap.size) 29 #[.int .i64 p.kind, .int .u32 (p.tup.src.toNat : Nat), .int .u32 (p.tup.dst.toNat : Nat), .int .i64 p.tup.proto, .int .i64 p.tup.sport, .int .i64 p.tup.dport, .int .i64 p.fb, .int .i64 p.fg, .int .i64 0, .int .i64 p.gen, .slice A3 m3 c3, .int .i64 p.back, .int .i64 p.until_, .int .i64 p.count] from h1))
           go_must (have B := Lib.hid (B.out.kept k1 (by simp <;> omega)))
           go_must (clear hcx)
           go_must (have hcx := X.out.cell)
           go_must (clear h1 k1)))
      have hlen := Lib.hid (show p.backs.length = m3 by obtain ⟨G3, ha, -⟩ := LV.arr BkOk S.out; exact (BkArr.len ha).1)
      have hm3 : (m3 : Int) ≤ 9223372036854775807 := by obtain ⟨G3, ha, -⟩ := LV.arr BkOk S.out; have := BkArr.len ha; unfold maxLen at this; omega
      have hsx := X.out.lt
      go_loopg [34] m3 (fun g i wr => ∃ k : Nat, k ≤ m3 ∧ g = m3 - k ∧ i = .int .i64 k ∧ Blk wr (w1.heap.size) 29 #[.int .i64 p.kind, .int .u32 (p.tup.src.toNat : Nat), .int .u32 (p.tup.dst.toNat : Nat), .int .i64 p.tup.proto, .int .i64 p.tup.sport, .int .i64 p.tup.dport, .int .i64 p.fb, .int .i64 p.fg, .int .i64 0, .int .i64 p.gen, .slice A3 m3 c3, .int .i64 p.back, .int .i64 p.until_, .int .i64 p.count] ∧ Blk wr (w.heap.size + 1) 29 #[.int .i64 0, .int .u32 0, .int .u32 0, .int .i64 0, .int .i64 0, .int .i64 0, .int .i64 0, .int .i64 0, .int .i64 0, .int .i64 0, .slice none 0 0, .int .i64 0, .int .i64 0, .int .i64 0] ∧ BkV w wr (.slice A3 m3 c3) (p.backs))
      case atStart => exact ⟨0, by omega, by omega, rfl, X.out, B.out, S.out⟩
      case round =>
        obtain ⟨k, hk, rfl, rfl, hX, hB, hS⟩ := hrel
        have X := Lib.hid hX
        have B := Lib.hid hB
        have S := Lib.hid hS
        clear hX hB hS hcx
        have hcx := X.out.cell
        by_cases hlt : k < m3
        · have hkl : k < p.backs.length := by rw [hlen.out]; exact hlt
          have i0 : (0 : Int) ≤ (k : Int) := by omega
          have i1 : (k : Int) < (m3 : Int) := by omega
          clear hkl
          go_wp2
          go_roundg (m3 - (k + 1))
          case measure => omega
          case rel => exact ⟨k + 1, by omega, rfl, by go_num, X.out, B.out, S.out⟩
        · obtain rfl : m3 = k := by omega
          have i1 : ¬ (m3 : Int) < (m3 : Int) := by omega
          go_wp2_with ((with_reducible show wpList _ _ _ ({ dst := none, op := Op.store 29 (.tmp 4) (.tmp 45), type := _, pos := _, after := _, guard := _ } :: _) _ _); refine wpList_put (t := 29) rfl 29 (.tmp 4) (.tmp 45) rfl _ (by rfl) (by rfl) (by exact B.out) (by rfl) (by kernel_rfl) (by simp [Value.oneCell']) ?_; intro w9 hb9 hk9; have Hb9 := Lib.hid hb9; have Hk9 := Lib.hid hk9; clear hb9 hk9)
          refine bodyPost_ret (results_cell (t := 29) Try.results13 (by rfl) Hb9.out _ Try.underlying29 rfl (by kernel_rfl)) rfl ?_
          rw [HX.out]
          exact ⟨_, rfl, BkV.far S.out Hk9.out B.out (by decide) (by omega)⟩
    · have hx : inR r v = { p with fg := p.fg, fs := p.fs, backs := p.backs } := by
        rw [HI.out]
        simp [q2, q3]
      have HX := Lib.hid hx
      clear hx hno
      have b1 : (p.kind == 1) = true := by simp [k1]
      clear k1
      go_enter Try.func13, Try.ntmps13
      go_wp2_with (first
        | (go_at_call 29
           go_must (refine (version_any _ _).mono ?_)
           go_must (rintro e w' ⟨rfl, rfl⟩)
           go_must (rw [hv]))
        | (go_at_call 6
           go_must (refine (Plain_any _ r H.out).mono ?_)
           go_must (rintro e w1 ⟨sl, rfl, hS⟩)
           go_must (rw [EP.out] at hS ⊢)
           go_must (have B := Lib.hid (B.out.kept hS.kept (by simp)))
           go_must (have P := Lib.hid (P.out.kept hS.kept (by simp)))
           go_must (have S := Lib.hid (LV.wide hS K.out))
           go_must (obtain ⟨A3, m3, c3, rfl⟩ := BkV.form S.out)
           go_must (have hlt1 := B.out.lt)
           go_must (clear hS))
        | (with_reducible show wpList _ _ _ ({ dst := none, op := Op.store 29 (.tmp 5) (.tmp 12), type := _, pos := _, after := _, guard := _ } :: _) _ _
           go_must (refine wpList_put (t := 29) rfl 29 (.tmp 5) (.tmp 12) rfl _ (by rfl) (by rfl) (by (repeat (first | (apply Blk.new'; simp; done) | apply Blk.alloc | apply Blk.drew))) (by rfl) (by kernel_rfl) (by simp [Value.oneCell']) ?_)
           go_must (intro w3 h1 k1)
           go_must (have X := Lib.hid (show Blk w3 w1.heap.size 29 #[.int .i64 p.kind, .int .u32 (p.tup.src.toNat : Nat), .int .u32 (p.tup.dst.toNat : Nat), .int .i64 p.tup.proto, .int .i64 p.tup.sport, .int .i64 p.tup.dport, .int .i64 p.fb, .int .i64 p.fg, .int .i64 p.fs, .int .i64 p.gen, .slice A3 m3 c3, .int .i64 p.back, .int .i64 p.until_, .int .i64 p.count] from h1))
           go_must (have k2 : Kept [w1.heap.size] w1 w3 := ((Kept.refl _ w1).alloc _).trans k1 (fun i hi => .inl hi))
           go_must (have B := Lib.hid (B.out.kept k2 (by simp; omega)))
           go_must (have S := Lib.hid (BkV.far (LV.go BkOk S.out ((Kept.refl [] w1).alloc (.cells #[.int .i64 0, .int .u32 0, .int .u32 0, .int .i64 0, .int .i64 0, .int .i64 0, .int .i64 0, .int .i64 0, .int .i64 0, .int .i64 0, .slice none 0 0, .int .i64 0, .int .i64 0, .int .i64 0] 29))) k1 (by (repeat (first | (apply Blk.new'; simp; done) | apply Blk.alloc | apply Blk.drew))) (by decide) (by omega)))
           go_must (have hcx := X.out.cell)
           go_must (clear h1 k1 k2)))
      have hlen := Lib.hid (show p.backs.length = m3 by obtain ⟨G3, ha, -⟩ := LV.arr BkOk S.out; exact (BkArr.len ha).1)
      have hm3 : (m3 : Int) ≤ 9223372036854775807 := by obtain ⟨G3, ha, -⟩ := LV.arr BkOk S.out; have := BkArr.len ha; unfold maxLen at this; omega
      have hsx := X.out.lt
      go_loopg [34] m3 (fun g i wr => ∃ k : Nat, k ≤ m3 ∧ g = m3 - k ∧ i = .int .i64 k ∧ Blk wr (w1.heap.size) 29 #[.int .i64 p.kind, .int .u32 (p.tup.src.toNat : Nat), .int .u32 (p.tup.dst.toNat : Nat), .int .i64 p.tup.proto, .int .i64 p.tup.sport, .int .i64 p.tup.dport, .int .i64 p.fb, .int .i64 p.fg, .int .i64 p.fs, .int .i64 p.gen, .slice A3 m3 c3, .int .i64 p.back, .int .i64 p.until_, .int .i64 p.count] ∧ Blk wr (w.heap.size + 1) 29 #[.int .i64 0, .int .u32 0, .int .u32 0, .int .i64 0, .int .i64 0, .int .i64 0, .int .i64 0, .int .i64 0, .int .i64 0, .int .i64 0, .slice none 0 0, .int .i64 0, .int .i64 0, .int .i64 0] ∧ BkV w wr (.slice A3 m3 c3) (p.backs))
      case atStart => exact ⟨0, by omega, by omega, rfl, X.out, B.out, S.out⟩
      case round =>
        obtain ⟨k, hk, rfl, rfl, hX, hB, hS⟩ := hrel
        have X := Lib.hid hX
        have B := Lib.hid hB
        have S := Lib.hid hS
        clear hX hB hS hcx
        have hcx := X.out.cell
        by_cases hlt : k < m3
        · have hkl : k < p.backs.length := by rw [hlen.out]; exact hlt
          have i0 : (0 : Int) ≤ (k : Int) := by omega
          have i1 : (k : Int) < (m3 : Int) := by omega
          clear hkl
          go_wp2
          go_roundg (m3 - (k + 1))
          case measure => omega
          case rel => exact ⟨k + 1, by omega, rfl, by go_num, X.out, B.out, S.out⟩
        · obtain rfl : m3 = k := by omega
          have i1 : ¬ (m3 : Int) < (m3 : Int) := by omega
          go_wp2_with ((with_reducible show wpList _ _ _ ({ dst := none, op := Op.store 29 (.tmp 4) (.tmp 45), type := _, pos := _, after := _, guard := _ } :: _) _ _); refine wpList_put (t := 29) rfl 29 (.tmp 4) (.tmp 45) rfl _ (by rfl) (by rfl) (by exact B.out) (by rfl) (by kernel_rfl) (by simp [Value.oneCell']) ?_; intro w9 hb9 hk9; have Hb9 := Lib.hid hb9; have Hk9 := Lib.hid hk9; clear hb9 hk9)
          refine bodyPost_ret (results_cell (t := 29) Try.results13 (by rfl) Hb9.out _ Try.underlying29 rfl (by kernel_rfl)) rfl ?_
          rw [HX.out]
          exact ⟨_, rfl, BkV.far S.out Hk9.out B.out (by decide) (by omega)⟩
    · have hx : inR r v = { p with fg := p.fg, fs := p.fs, backs := p.backs.map light1 } := by
        rw [HI.out]
        have e := hno k1
        clear HI EP HK hno k1
        obtain ⟨e1, e2⟩ := e
        cases p
        simp only at e1 e2
        subst e1 e2
        simp [q2]
      have HX := Lib.hid hx
      clear hx hno
      have b1 : (p.kind == 1) = false := by simp [k1]
      clear k1
      go_enter Try.func13, Try.ntmps13
      go_wp2_with (first
        | (go_at_call 29
           go_must (refine (version_any _ _).mono ?_)
           go_must (rintro e w' ⟨rfl, rfl⟩)
           go_must (rw [hv]))
        | (go_at_call 6
           go_must (refine (Plain_any _ r H.out).mono ?_)
           go_must (rintro e w1 ⟨sl, rfl, hS⟩)
           go_must (rw [EP.out] at hS ⊢)
           go_must (have B := Lib.hid (B.out.kept hS.kept (by simp)))
           go_must (have P := Lib.hid (P.out.kept hS.kept (by simp)))
           go_must (have S := Lib.hid (LV.wide hS K.out))
           go_must (obtain ⟨A3, m3, c3, rfl⟩ := BkV.form S.out)
           go_must (have hlt1 := B.out.lt)
           go_must (clear hS))
        | (with_reducible show wpList _ _ _ ({ dst := none, op := Op.store 29 (.tmp 5) (.tmp 12), type := _, pos := _, after := _, guard := _ } :: _) _ _
           go_must (refine wpList_put (t := 29) rfl 29 (.tmp 5) (.tmp 12) rfl _ (by rfl) (by rfl) (by (repeat (first | (apply Blk.new'; simp; done) | apply Blk.alloc | apply Blk.drew))) (by rfl) (by kernel_rfl) (by simp [Value.oneCell']) ?_)
           go_must (intro w3 h1 k1)
           go_must (have X := Lib.hid (show Blk w3 w1.heap.size 29 #[.int .i64 p.kind, .int .u32 (p.tup.src.toNat : Nat), .int .u32 (p.tup.dst.toNat : Nat), .int .i64 p.tup.proto, .int .i64 p.tup.sport, .int .i64 p.tup.dport, .int .i64 p.fb, .int .i64 p.fg, .int .i64 p.fs, .int .i64 p.gen, .slice A3 m3 c3, .int .i64 p.back, .int .i64 p.until_, .int .i64 p.count] from h1))
           go_must (have k2 : Kept [w1.heap.size] w1 w3 := ((Kept.refl _ w1).alloc _).trans k1 (fun i hi => .inl hi))
           go_must (have B := Lib.hid (B.out.kept k2 (by simp; omega)))
           go_must (have S := Lib.hid (BkV.far (LV.go BkOk S.out ((Kept.refl [] w1).alloc (.cells #[.int .i64 0, .int .u32 0, .int .u32 0, .int .i64 0, .int .i64 0, .int .i64 0, .int .i64 0, .int .i64 0, .int .i64 0, .int .i64 0, .slice none 0 0, .int .i64 0, .int .i64 0, .int .i64 0] 29))) k1 (by (repeat (first | (apply Blk.new'; simp; done) | apply Blk.alloc | apply Blk.drew))) (by decide) (by omega)))
           go_must (have hcx := X.out.cell)
           go_must (clear h1 k1 k2)))
      have hlen := Lib.hid (show p.backs.length = m3 by obtain ⟨G3, ha, -⟩ := LV.arr BkOk S.out; exact (BkArr.len ha).1)
      have hm3 : (m3 : Int) ≤ 9223372036854775807 := by obtain ⟨G3, ha, -⟩ := LV.arr BkOk S.out; have := BkArr.len ha; unfold maxLen at this; omega
      have hsx := X.out.lt
      go_loopg [34] m3 (fun g i wr => ∃ k : Nat, k ≤ m3 ∧ g = m3 - k ∧ i = .int .i64 k ∧ Blk wr (w1.heap.size) 29 #[.int .i64 p.kind, .int .u32 (p.tup.src.toNat : Nat), .int .u32 (p.tup.dst.toNat : Nat), .int .i64 p.tup.proto, .int .i64 p.tup.sport, .int .i64 p.tup.dport, .int .i64 p.fb, .int .i64 p.fg, .int .i64 p.fs, .int .i64 p.gen, .slice A3 m3 c3, .int .i64 p.back, .int .i64 p.until_, .int .i64 p.count] ∧ Blk wr (w.heap.size + 1) 29 #[.int .i64 0, .int .u32 0, .int .u32 0, .int .i64 0, .int .i64 0, .int .i64 0, .int .i64 0, .int .i64 0, .int .i64 0, .int .i64 0, .slice none 0 0, .int .i64 0, .int .i64 0, .int .i64 0] ∧ BkV w wr (.slice A3 m3 c3) (lightK k p.backs))
      case atStart => exact ⟨0, by omega, by omega, rfl, X.out, B.out, S.out⟩
      case round =>
        obtain ⟨k, hk, rfl, rfl, hX, hB, hS⟩ := hrel
        have X := Lib.hid hX
        have B := Lib.hid hB
        have S := Lib.hid hS
        clear hX hB hS hcx
        have hcx := X.out.cell
        by_cases hlt : k < m3
        · have hkl : k < p.backs.length := by rw [hlen.out]; exact hlt
          have i0 : (0 : Int) ≤ (k : Int) := by omega
          have i1 : (k : Int) < (m3 : Int) := by omega
          obtain ⟨g, hA, hg, c2, f2, hnew, hS, hk2, hoff⟩ := BkV.weigh S.out (k := k) (by rw [lightK_len]; exact hkl) 1
          rw [lightK_get hkl] at c2
          have e := lightK_succ hkl
          have hS := BkV.cast hS (l' := lightK (k + 1) p.backs) (by rw [← e]; congr 1; rw [lightK_get hkl])
          subst hA
          have X := Lib.hid (hoff _ _ _ X.out (by decide))
          have B := Lib.hid (hoff _ _ _ B.out (by decide))
          have S := Lib.hid hS
          clear hS hoff hk2 e
          go_wp2
          go_roundg (m3 - (k + 1))
          case measure => omega
          case rel => exact ⟨k + 1, by omega, rfl, by go_num, X.out, B.out, S.out⟩
        · obtain rfl : m3 = k := by omega
          have i1 : ¬ (m3 : Int) < (m3 : Int) := by omega
          have S := Lib.hid (BkV.cast S.out (lightK_all (by rw [hlen.out]; omega)))
          go_wp2_with ((with_reducible show wpList _ _ _ ({ dst := none, op := Op.store 29 (.tmp 4) (.tmp 45), type := _, pos := _, after := _, guard := _ } :: _) _ _); refine wpList_put (t := 29) rfl 29 (.tmp 4) (.tmp 45) rfl _ (by rfl) (by rfl) (by exact B.out) (by rfl) (by kernel_rfl) (by simp [Value.oneCell']) ?_; intro w9 hb9 hk9; have Hb9 := Lib.hid hb9; have Hk9 := Lib.hid hk9; clear hb9 hk9)
          refine bodyPost_ret (results_cell (t := 29) Try.results13 (by rfl) Hb9.out _ Try.underlying29 rfl (by kernel_rfl)) rfl ?_
          rw [HX.out]
          exact ⟨_, rfl, BkV.far S.out Hk9.out B.out (by decide) (by omega)⟩
    · have hx : inR r v = { p with fg := p.fg, fs := p.fs, backs := p.backs } := by
        rw [HI.out]
        have e := hno k1
        clear HI EP HK hno k1
        obtain ⟨e1, e2⟩ := e
        cases p
        simp only at e1 e2
        subst e1 e2
        simp [q2]
      have HX := Lib.hid hx
      clear hx hno
      have b1 : (p.kind == 1) = false := by simp [k1]
      clear k1
      go_enter Try.func13, Try.ntmps13
      go_wp2_with (first
        | (go_at_call 29
           go_must (refine (version_any _ _).mono ?_)
           go_must (rintro e w' ⟨rfl, rfl⟩)
           go_must (rw [hv]))
        | (go_at_call 6
           go_must (refine (Plain_any _ r H.out).mono ?_)
           go_must (rintro e w1 ⟨sl, rfl, hS⟩)
           go_must (rw [EP.out] at hS ⊢)
           go_must (have B := Lib.hid (B.out.kept hS.kept (by simp)))
           go_must (have P := Lib.hid (P.out.kept hS.kept (by simp)))
           go_must (have S := Lib.hid (LV.wide hS K.out))
           go_must (obtain ⟨A3, m3, c3, rfl⟩ := BkV.form S.out)
           go_must (have hlt1 := B.out.lt)
           go_must (clear hS))
        | (with_reducible show wpList _ _ _ ({ dst := none, op := Op.store 29 (.tmp 5) (.tmp 12), type := _, pos := _, after := _, guard := _ } :: _) _ _
           go_must (refine wpList_put (t := 29) rfl 29 (.tmp 5) (.tmp 12) rfl _ (by rfl) (by rfl) (by (repeat (first | (apply Blk.new'; simp; done) | apply Blk.alloc | apply Blk.drew))) (by rfl) (by kernel_rfl) (by simp [Value.oneCell']) ?_)
           go_must (intro w3 h1 k1)
           go_must (have X := Lib.hid (show Blk w3 w1.heap.size 29 #[.int .i64 p.kind, .int .u32 (p.tup.src.toNat : Nat), .int .u32 (p.tup.dst.toNat : Nat), .int .i64 p.tup.proto, .int .i64 p.tup.sport, .int .i64 p.tup.dport, .int .i64 p.fb, .int .i64 p.fg, .int .i64 p.fs, .int .i64 p.gen, .slice A3 m3 c3, .int .i64 p.back, .int .i64 p.until_, .int .i64 p.count] from h1))
           go_must (have k2 : Kept [w1.heap.size] w1 w3 := ((Kept.refl _ w1).alloc _).trans k1 (fun i hi => .inl hi))
           go_must (have B := Lib.hid (B.out.kept k2 (by simp; omega)))
           go_must (have S := Lib.hid (BkV.far (LV.go BkOk S.out ((Kept.refl [] w1).alloc (.cells #[.int .i64 0, .int .u32 0, .int .u32 0, .int .i64 0, .int .i64 0, .int .i64 0, .int .i64 0, .int .i64 0, .int .i64 0, .int .i64 0, .slice none 0 0, .int .i64 0, .int .i64 0, .int .i64 0] 29))) k1 (by (repeat (first | (apply Blk.new'; simp; done) | apply Blk.alloc | apply Blk.drew))) (by decide) (by omega)))
           go_must (have hcx := X.out.cell)
           go_must (clear h1 k1 k2)))
      have hlen := Lib.hid (show p.backs.length = m3 by obtain ⟨G3, ha, -⟩ := LV.arr BkOk S.out; exact (BkArr.len ha).1)
      have hm3 : (m3 : Int) ≤ 9223372036854775807 := by obtain ⟨G3, ha, -⟩ := LV.arr BkOk S.out; have := BkArr.len ha; unfold maxLen at this; omega
      have hsx := X.out.lt
      go_loopg [34] m3 (fun g i wr => ∃ k : Nat, k ≤ m3 ∧ g = m3 - k ∧ i = .int .i64 k ∧ Blk wr (w1.heap.size) 29 #[.int .i64 p.kind, .int .u32 (p.tup.src.toNat : Nat), .int .u32 (p.tup.dst.toNat : Nat), .int .i64 p.tup.proto, .int .i64 p.tup.sport, .int .i64 p.tup.dport, .int .i64 p.fb, .int .i64 p.fg, .int .i64 p.fs, .int .i64 p.gen, .slice A3 m3 c3, .int .i64 p.back, .int .i64 p.until_, .int .i64 p.count] ∧ Blk wr (w.heap.size + 1) 29 #[.int .i64 0, .int .u32 0, .int .u32 0, .int .i64 0, .int .i64 0, .int .i64 0, .int .i64 0, .int .i64 0, .int .i64 0, .int .i64 0, .slice none 0 0, .int .i64 0, .int .i64 0, .int .i64 0] ∧ BkV w wr (.slice A3 m3 c3) (p.backs))
      case atStart => exact ⟨0, by omega, by omega, rfl, X.out, B.out, S.out⟩
      case round =>
        obtain ⟨k, hk, rfl, rfl, hX, hB, hS⟩ := hrel
        have X := Lib.hid hX
        have B := Lib.hid hB
        have S := Lib.hid hS
        clear hX hB hS hcx
        have hcx := X.out.cell
        by_cases hlt : k < m3
        · have hkl : k < p.backs.length := by rw [hlen.out]; exact hlt
          have i0 : (0 : Int) ≤ (k : Int) := by omega
          have i1 : (k : Int) < (m3 : Int) := by omega
          clear hkl
          go_wp2
          go_roundg (m3 - (k + 1))
          case measure => omega
          case rel => exact ⟨k + 1, by omega, rfl, by go_num, X.out, B.out, S.out⟩
        · obtain rfl : m3 = k := by omega
          have i1 : ¬ (m3 : Int) < (m3 : Int) := by omega
          go_wp2_with ((with_reducible show wpList _ _ _ ({ dst := none, op := Op.store 29 (.tmp 4) (.tmp 45), type := _, pos := _, after := _, guard := _ } :: _) _ _); refine wpList_put (t := 29) rfl 29 (.tmp 4) (.tmp 45) rfl _ (by rfl) (by rfl) (by exact B.out) (by rfl) (by kernel_rfl) (by simp [Value.oneCell']) ?_; intro w9 hb9 hk9; have Hb9 := Lib.hid hb9; have Hk9 := Lib.hid hk9; clear hb9 hk9)
          refine bodyPost_ret (results_cell (t := 29) Try.results13 (by rfl) Hb9.out _ Try.underlying29 rfl (by kernel_rfl)) rfl ?_
          rw [HX.out]
          exact ⟨_, rfl, BkV.far S.out Hk9.out B.out (by decide) (by omega)⟩

set_option maxHeartbeats 6400000 in
set_option maxRecDepth 100000 in
theorem rIn_any (w : World) {G : List Nat} {A : Option Addr} {m c : Nat} (r : RecD) (v : Int) (h : SmallB w G A m c r.backs) :
    Calls Try.prog 14 #[.agg #[.int .i64 r.kind, .int .u32 (r.tup.src.toNat : Nat), .int .u32 (r.tup.dst.toNat : Nat), .int .i64 r.tup.proto, .int .i64 r.tup.sport, .int .i64 r.tup.dport, .int .i64 r.fb, .int .i64 r.fg, .int .i64 r.fs, .int .i64 r.gen, .slice A m c, .int .i64 r.back, .int .i64 r.until_, .int .i64 r.count], .int .i64 v] w fun e w' => ∃ sl, e = .returned (.agg #[.int .i64 (inR r v).kind, .int .u32 ((inR r v).tup.src.toNat : Nat), .int .u32 ((inR r v).tup.dst.toNat : Nat), .int .i64 (inR r v).tup.proto, .int .i64 (inR r v).tup.sport, .int .i64 (inR r v).tup.dport, .int .i64 (inR r v).fb, .int .i64 (inR r v).fg, .int .i64 (inR r v).fs, .int .i64 (inR r v).gen, sl, .int .i64 (inR r v).back, .int .i64 (inR r v).until_, .int .i64 (inR r v).count]) ∧ BkV w w' sl (inR r v).backs := by
  have hk0 : Kept [] w ((w.alloc (.cells #[.int .i64 r.kind, .int .u32 (r.tup.src.toNat : Nat), .int .u32 (r.tup.dst.toNat : Nat), .int .i64 r.tup.proto, .int .i64 r.tup.sport, .int .i64 r.tup.dport, .int .i64 r.fb, .int .i64 r.fg, .int .i64 r.fs, .int .i64 r.gen, .slice A m c, .int .i64 r.back, .int .i64 r.until_, .int .i64 r.count] 29)).alloc (.cells #[.int .i64 0, .int .u32 0, .int .u32 0, .int .i64 0, .int .i64 0, .int .i64 0, .int .i64 0, .int .i64 0, .int .i64 0, .int .i64 0, .slice none 0 0, .int .i64 0, .int .i64 0, .int .i64 0] 29)) := by (repeat (first | exact Kept.refl _ _ | apply Kept.alloc | apply Kept.drew))
  have B := Lib.hid (show Blk ((w.alloc (.cells #[.int .i64 r.kind, .int .u32 (r.tup.src.toNat : Nat), .int .u32 (r.tup.dst.toNat : Nat), .int .i64 r.tup.proto, .int .i64 r.tup.sport, .int .i64 r.tup.dport, .int .i64 r.fb, .int .i64 r.fg, .int .i64 r.fs, .int .i64 r.gen, .slice A m c, .int .i64 r.back, .int .i64 r.until_, .int .i64 r.count] 29)).alloc (.cells #[.int .i64 0, .int .u32 0, .int .u32 0, .int .i64 0, .int .i64 0, .int .i64 0, .int .i64 0, .int .i64 0, .int .i64 0, .int .i64 0, .slice none 0 0, .int .i64 0, .int .i64 0, .int .i64 0] 29)) (w.heap.size + 1) 29 #[.int .i64 0, .int .u32 0, .int .u32 0, .int .i64 0, .int .i64 0, .int .i64 0, .int .i64 0, .int .i64 0, .int .i64 0, .int .i64 0, .slice none 0 0, .int .i64 0, .int .i64 0, .int .i64 0] from by (repeat (first | (apply Blk.new'; simp; done) | apply Blk.alloc | apply Blk.drew)))
  have P := Lib.hid (show Blk ((w.alloc (.cells #[.int .i64 r.kind, .int .u32 (r.tup.src.toNat : Nat), .int .u32 (r.tup.dst.toNat : Nat), .int .i64 r.tup.proto, .int .i64 r.tup.sport, .int .i64 r.tup.dport, .int .i64 r.fb, .int .i64 r.fg, .int .i64 r.fs, .int .i64 r.gen, .slice A m c, .int .i64 r.back, .int .i64 r.until_, .int .i64 r.count] 29)).alloc (.cells #[.int .i64 0, .int .u32 0, .int .u32 0, .int .i64 0, .int .i64 0, .int .i64 0, .int .i64 0, .int .i64 0, .int .i64 0, .int .i64 0, .slice none 0 0, .int .i64 0, .int .i64 0, .int .i64 0] 29)) w.heap.size 29 #[.int .i64 r.kind, .int .u32 (r.tup.src.toNat : Nat), .int .u32 (r.tup.dst.toNat : Nat), .int .i64 r.tup.proto, .int .i64 r.tup.sport, .int .i64 r.tup.dport, .int .i64 r.fb, .int .i64 r.fg, .int .i64 r.fs, .int .i64 r.gen, .slice A m c, .int .i64 r.back, .int .i64 r.until_, .int .i64 r.count] from by (repeat (first | (apply Blk.new'; simp; done) | apply Blk.alloc | apply Blk.drew)))
  have H : Hid (SmallB ((w.alloc (.cells #[.int .i64 r.kind, .int .u32 (r.tup.src.toNat : Nat), .int .u32 (r.tup.dst.toNat : Nat), .int .i64 r.tup.proto, .int .i64 r.tup.sport, .int .i64 r.tup.dport, .int .i64 r.fb, .int .i64 r.fg, .int .i64 r.fs, .int .i64 r.gen, .slice A m c, .int .i64 r.back, .int .i64 r.until_, .int .i64 r.count] 29)).alloc (.cells #[.int .i64 0, .int .u32 0, .int .u32 0, .int .i64 0, .int .i64 0, .int .i64 0, .int .i64 0, .int .i64 0, .int .i64 0, .int .i64 0, .slice none 0 0, .int .i64 0, .int .i64 0, .int .i64 0] 29)) G A m c r.backs) := Lib.hid ⟨BkArr.kept h.1 hk0 (by simp), fun k hk => Nat.lt_of_lt_of_le (h.2.1 k hk) hk0.size, h.2.2⟩
  have K := Lib.hid hk0
  clear h hk0
  cases hv : verB v
  · have hr := Lib.hid (inR_none (r := r) hv)
    go_enter Try.func14, Try.ntmps14
    go_wp2_with (first
      | (go_at_call 30; refine (rVersion_any _ _).mono ?_; rintro e w' ⟨rfl, rfl⟩; rw [hv])
      | ((with_reducible show wpList _ _ _ ({ dst := none, op := Op.store 29 (.tmp 4) (.tmp 9), type := _, pos := _, after := _, guard := _ } :: _) _ _); refine wpList_put (t := 29) rfl 29 (.tmp 4) (.tmp 9) rfl _ (by rfl) (by rfl) (by exact B.out) (by rfl) (by kernel_rfl) (by simp [Value.oneCell']) ?_; intro w9 hb9 hk9; have Hb9 := Lib.hid hb9; have Hk9 := Lib.hid hk9; clear hb9 hk9))
    refine bodyPost_ret (results_cell (t := 29) Try.results14 (by rfl) Hb9.out _ Try.underlying29 rfl (by kernel_rfl)) rfl ?_
    rw [hr.out]
    exact ⟨_, rfl, LV.nil (K.out.trans Hk9.out (fun i hi => .inr (by simp at hi; omega)))⟩
  · obtain ⟨p, hp⟩ : ∃ p, plainR r = p := ⟨_, rfl⟩
    have hin := inR_of (r := r) hv
    have hno := plain_no (r := r)
    have hki := plain_kind r
    rw [hp] at hin hno hki
    have EP := Lib.hid hp
    have HI := Lib.hid hin
    have HV := Lib.hid hv
    have hv13 : v = 1 ∨ v = 2 ∨ v = 3 := by simp [verB] at hv; omega
    have HK := Lib.hid hki
    clear hp hin hki
    have hno : p.kind ≠ 1 → p.fg = 0 ∧ p.fs = 0 := fun h => hno (by rw [← HK.out]; exact h)
    have hways : (v < 2 ∧ v < 3) ∨ (¬ v < 2 ∧ v < 3) ∨ (¬ v < 2 ∧ ¬ v < 3) := by omega
    clear hv13
    rcases hways with ⟨q2, q3⟩ | ⟨q2, q3⟩ | ⟨q2, q3⟩
    · have hx : inR r v = { p with fg := 0, fs := 0, backs := p.backs.map light1 } := by
        rw [HI.out]
        simp [q2, q3]
      have HX := Lib.hid hx
      clear hx hno
      go_enter Try.func14, Try.ntmps14
      go_wp2_with (first
        | (go_at_call 30
           go_must (refine (rVersion_any _ _).mono ?_)
           go_must (rintro e w' ⟨rfl, rfl⟩)
           go_must (rw [hv]))
        | (go_at_call 7
           go_must (refine (rPlain_any _ r H.out).mono ?_)
           go_must (rintro e w1 ⟨sl, rfl, hS⟩)
           go_must (rw [EP.out] at hS ⊢)
           go_must (have B := Lib.hid (B.out.kept hS.kept (by simp)))
           go_must (have P := Lib.hid (P.out.kept hS.kept (by simp)))
           go_must (have S := Lib.hid (LV.wide hS K.out))
           go_must (obtain ⟨A3, m3, c3, rfl⟩ := BkV.form S.out)
           go_must (have hlt1 := B.out.lt)
           go_must (clear hS))
        | (with_reducible show wpList _ _ _ ({ dst := none, op := Op.store 29 (.tmp 2) (.tmp 11), type := _, pos := _, after := _, guard := _ } :: _) _ _
           go_must (refine wpList_put (t := 29) rfl 29 (.tmp 2) (.tmp 11) rfl _ (by rfl) (by rfl) P.out (by rfl) (by kernel_rfl) (by simp [Value.oneCell']) ?_)
           go_must (intro w3 h1 k1)
           go_must (have X := Lib.hid (show Blk w3 w.heap.size 29 #[.int .i64 p.kind, .int .u32 (p.tup.src.toNat : Nat), .int .u32 (p.tup.dst.toNat : Nat), .int .i64 p.tup.proto, .int .i64 p.tup.sport, .int .i64 p.tup.dport, .int .i64 p.fb, .int .i64 p.fg, .int .i64 p.fs, .int .i64 p.gen, .slice A3 m3 c3, .int .i64 p.back, .int .i64 p.until_, .int .i64 p.count] from h1))
           go_must (have B := Lib.hid (B.out.kept k1 (by simp)))
           go_must (have S := Lib.hid (BkV.far S.out k1 P.out (by decide) (by omega)))
           go_must (have hcx := X.out.cell)
           go_must (clear h1 k1))
        | (with_reducible show wpList _ _ _ ({ dst := none, op := Op.store 3 (.tmp 15) _, type := _, pos := _, after := _, guard := _ } :: _) _ _
           go_must (refine wpList_putAt (t := 29) (v := .int .i64 0) rfl 3 (.tmp 15) _ rfl (by rfl) (by rfl) X.out (by simp [Value.cells]) (by kernel_rfl) (by simp [Value.cells, Value.oneCell']) ?_)
           go_must (intro w4 h1 k1)
           go_must (have S := Lib.hid (BkV.far S.out k1 X.out (by decide) (by omega)))
           go_must (have X := Lib.hid (show Blk w4 (w.heap.size) 29 #[.int .i64 p.kind, .int .u32 (p.tup.src.toNat : Nat), .int .u32 (p.tup.dst.toNat : Nat), .int .i64 p.tup.proto, .int .i64 p.tup.sport, .int .i64 p.tup.dport, .int .i64 p.fb, .int .i64 0, .int .i64 p.fs, .int .i64 p.gen, .slice A3 m3 c3, .int .i64 p.back, .int .i64 p.until_, .int .i64 p.count] from h1))
           go_must (have B := Lib.hid (B.out.kept k1 (by simp <;> omega)))
           go_must (clear hcx)
           go_must (have hcx := X.out.cell)
           go_must (clear h1 k1)))
      have hlen := Lib.hid (show p.backs.length = m3 by obtain ⟨G3, ha, -⟩ := LV.arr BkOk S.out; exact (BkArr.len ha).1)
      have hm3 : (m3 : Int) ≤ 9223372036854775807 := by obtain ⟨G3, ha, -⟩ := LV.arr BkOk S.out; have := BkArr.len ha; unfold maxLen at this; omega
      have hsx := X.out.lt
      go_loopg [19] m3 (fun g i wr => ∃ k : Nat, k ≤ m3 ∧ g = m3 - k ∧ i = .int .i64 k ∧ Blk wr (w.heap.size) 29 #[.int .i64 p.kind, .int .u32 (p.tup.src.toNat : Nat), .int .u32 (p.tup.dst.toNat : Nat), .int .i64 p.tup.proto, .int .i64 p.tup.sport, .int .i64 p.tup.dport, .int .i64 p.fb, .int .i64 0, .int .i64 p.fs, .int .i64 p.gen, .slice A3 m3 c3, .int .i64 p.back, .int .i64 p.until_, .int .i64 p.count] ∧ Blk wr (w.heap.size + 1) 29 #[.int .i64 0, .int .u32 0, .int .u32 0, .int .i64 0, .int .i64 0, .int .i64 0, .int .i64 0, .int .i64 0, .int .i64 0, .int .i64 0, .slice none 0 0, .int .i64 0, .int .i64 0, .int .i64 0] ∧ BkV w wr (.slice A3 m3 c3) (lightK k p.backs))
      case atStart => exact ⟨0, by omega, by omega, rfl, X.out, B.out, S.out⟩
      case round =>
        obtain ⟨k, hk, rfl, rfl, hX, hB, hS⟩ := hrel
        have X := Lib.hid hX
        have B := Lib.hid hB
        have S := Lib.hid hS
        clear hX hB hS hcx
        have hcx := X.out.cell
        by_cases hlt : k < m3
        · have hkl : k < p.backs.length := by rw [hlen.out]; exact hlt
          have i0 : (0 : Int) ≤ (k : Int) := by omega
          have i1 : (k : Int) < (m3 : Int) := by omega
          obtain ⟨g, hA, hg, c2, f2, hnew, hS, hk2, hoff⟩ := BkV.weigh S.out (k := k) (by rw [lightK_len]; exact hkl) 1
          rw [lightK_get hkl] at c2
          have e := lightK_succ hkl
          have hS := BkV.cast hS (l' := lightK (k + 1) p.backs) (by rw [← e]; congr 1; rw [lightK_get hkl])
          subst hA
          have X := Lib.hid (hoff _ _ _ X.out (by decide))
          have B := Lib.hid (hoff _ _ _ B.out (by decide))
          have S := Lib.hid hS
          clear hS hoff hk2 e
          go_wp2
          go_roundg (m3 - (k + 1))
          case measure => omega
          case rel => exact ⟨k + 1, by omega, rfl, by go_num, X.out, B.out, S.out⟩
        · obtain rfl : m3 = k := by omega
          have i1 : ¬ (m3 : Int) < (m3 : Int) := by omega
          have S := Lib.hid (BkV.cast S.out (lightK_all (by rw [hlen.out]; omega)))
          go_wp2_with (first
            | (with_reducible show wpList _ _ _ ({ dst := none, op := Op.store 2 (.tmp 31) _, type := _, pos := _, after := _, guard := _ } :: _) _ _
               go_must (refine wpList_putAt (t := 29) (v := .int .i64 0) rfl 2 (.tmp 31) _ rfl (by rfl) (by rfl) X.out (by simp [Value.cells]) (by kernel_rfl) (by simp [Value.cells, Value.oneCell']) ?_)
               go_must (intro w5 h1 k1)
               go_must (have S := Lib.hid (BkV.far S.out k1 X.out (by decide) (by omega)))
               go_must (have X := Lib.hid (show Blk w5 (w.heap.size) 29 #[.int .i64 p.kind, .int .u32 (p.tup.src.toNat : Nat), .int .u32 (p.tup.dst.toNat : Nat), .int .i64 p.tup.proto, .int .i64 p.tup.sport, .int .i64 p.tup.dport, .int .i64 p.fb, .int .i64 0, .int .i64 0, .int .i64 p.gen, .slice A3 m3 c3, .int .i64 p.back, .int .i64 p.until_, .int .i64 p.count] from h1))
               go_must (have B := Lib.hid (B.out.kept k1 (by simp <;> omega)))
               go_must (clear hcx)
               go_must (have hcx := X.out.cell)
               go_must (clear h1 k1))
            | ((with_reducible show wpList _ _ _ ({ dst := none, op := Op.store 29 (.tmp 4) (.tmp 32), type := _, pos := _, after := _, guard := _ } :: _) _ _); refine wpList_put (t := 29) rfl 29 (.tmp 4) (.tmp 32) rfl _ (by rfl) (by rfl) (by exact B.out) (by rfl) (by kernel_rfl) (by simp [Value.oneCell']) ?_; intro w9 hb9 hk9; have Hb9 := Lib.hid hb9; have Hk9 := Lib.hid hk9; clear hb9 hk9))
          refine bodyPost_ret (results_cell (t := 29) Try.results14 (by rfl) Hb9.out _ Try.underlying29 rfl (by kernel_rfl)) rfl ?_
          rw [HX.out]
          exact ⟨_, rfl, BkV.far S.out Hk9.out B.out (by decide) (by omega)⟩
    · have hx : inR r v = { p with fg := p.fg, fs := 0, backs := p.backs } := by
        rw [HI.out]
        simp [q2, q3]
      have HX := Lib.hid hx
      clear hx hno
      go_enter Try.func14, Try.ntmps14
      go_wp2_with (first
        | (go_at_call 30
           go_must (refine (rVersion_any _ _).mono ?_)
           go_must (rintro e w' ⟨rfl, rfl⟩)
           go_must (rw [hv]))
        | (go_at_call 7
           go_must (refine (rPlain_any _ r H.out).mono ?_)
           go_must (rintro e w1 ⟨sl, rfl, hS⟩)
           go_must (rw [EP.out] at hS ⊢)
           go_must (have B := Lib.hid (B.out.kept hS.kept (by simp)))
           go_must (have P := Lib.hid (P.out.kept hS.kept (by simp)))
           go_must (have S := Lib.hid (LV.wide hS K.out))
           go_must (obtain ⟨A3, m3, c3, rfl⟩ := BkV.form S.out)
           go_must (have hlt1 := B.out.lt)
           go_must (clear hS))
        | (with_reducible show wpList _ _ _ ({ dst := none, op := Op.store 29 (.tmp 2) (.tmp 11), type := _, pos := _, after := _, guard := _ } :: _) _ _
           go_must (refine wpList_put (t := 29) rfl 29 (.tmp 2) (.tmp 11) rfl _ (by rfl) (by rfl) P.out (by rfl) (by kernel_rfl) (by simp [Value.oneCell']) ?_)
           go_must (intro w3 h1 k1)
           go_must (have X := Lib.hid (show Blk w3 w.heap.size 29 #[.int .i64 p.kind, .int .u32 (p.tup.src.toNat : Nat), .int .u32 (p.tup.dst.toNat : Nat), .int .i64 p.tup.proto, .int .i64 p.tup.sport, .int .i64 p.tup.dport, .int .i64 p.fb, .int .i64 p.fg, .int .i64 p.fs, .int .i64 p.gen, .slice A3 m3 c3, .int .i64 p.back, .int .i64 p.until_, .int .i64 p.count] from h1))
           go_must (have B := Lib.hid (B.out.kept k1 (by simp)))
           go_must (have S := Lib.hid (BkV.far S.out k1 P.out (by decide) (by omega)))
           go_must (have hcx := X.out.cell)
           go_must (clear h1 k1))
        | (with_reducible show wpList _ _ _ ({ dst := none, op := Op.store 2 (.tmp 31) _, type := _, pos := _, after := _, guard := _ } :: _) _ _
           go_must (refine wpList_putAt (t := 29) (v := .int .i64 0) rfl 2 (.tmp 31) _ rfl (by rfl) (by rfl) X.out (by simp [Value.cells]) (by kernel_rfl) (by simp [Value.cells, Value.oneCell']) ?_)
           go_must (intro w5 h1 k1)
           go_must (have S := Lib.hid (BkV.far S.out k1 X.out (by decide) (by omega)))
           go_must (have X := Lib.hid (show Blk w5 (w.heap.size) 29 #[.int .i64 p.kind, .int .u32 (p.tup.src.toNat : Nat), .int .u32 (p.tup.dst.toNat : Nat), .int .i64 p.tup.proto, .int .i64 p.tup.sport, .int .i64 p.tup.dport, .int .i64 p.fb, .int .i64 p.fg, .int .i64 0, .int .i64 p.gen, .slice A3 m3 c3, .int .i64 p.back, .int .i64 p.until_, .int .i64 p.count] from h1))
           go_must (have B := Lib.hid (B.out.kept k1 (by simp <;> omega)))
           go_must (clear hcx)
           go_must (have hcx := X.out.cell)
           go_must (clear h1 k1))
        | ((with_reducible show wpList _ _ _ ({ dst := none, op := Op.store 29 (.tmp 4) (.tmp 32), type := _, pos := _, after := _, guard := _ } :: _) _ _); refine wpList_put (t := 29) rfl 29 (.tmp 4) (.tmp 32) rfl _ (by rfl) (by rfl) (by exact B.out) (by rfl) (by kernel_rfl) (by simp [Value.oneCell']) ?_; intro w9 hb9 hk9; have Hb9 := Lib.hid hb9; have Hk9 := Lib.hid hk9; clear hb9 hk9))
      refine bodyPost_ret (results_cell (t := 29) Try.results14 (by rfl) Hb9.out _ Try.underlying29 rfl (by kernel_rfl)) rfl ?_
      rw [HX.out]
      exact ⟨_, rfl, BkV.far S.out Hk9.out B.out (by decide) (by omega)⟩
    · have hx : inR r v = { p with fg := p.fg, fs := p.fs, backs := p.backs } := by
        rw [HI.out]
        simp [q2, q3]
      have HX := Lib.hid hx
      clear hx hno
      go_enter Try.func14, Try.ntmps14
      go_wp2_with (first
        | (go_at_call 30
           go_must (refine (rVersion_any _ _).mono ?_)
           go_must (rintro e w' ⟨rfl, rfl⟩)
           go_must (rw [hv]))
        | (go_at_call 7
           go_must (refine (rPlain_any _ r H.out).mono ?_)
           go_must (rintro e w1 ⟨sl, rfl, hS⟩)
           go_must (rw [EP.out] at hS ⊢)
           go_must (have B := Lib.hid (B.out.kept hS.kept (by simp)))
           go_must (have P := Lib.hid (P.out.kept hS.kept (by simp)))
           go_must (have S := Lib.hid (LV.wide hS K.out))
           go_must (obtain ⟨A3, m3, c3, rfl⟩ := BkV.form S.out)
           go_must (have hlt1 := B.out.lt)
           go_must (clear hS))
        | (with_reducible show wpList _ _ _ ({ dst := none, op := Op.store 29 (.tmp 2) (.tmp 11), type := _, pos := _, after := _, guard := _ } :: _) _ _
           go_must (refine wpList_put (t := 29) rfl 29 (.tmp 2) (.tmp 11) rfl _ (by rfl) (by rfl) P.out (by rfl) (by kernel_rfl) (by simp [Value.oneCell']) ?_)
           go_must (intro w3 h1 k1)
           go_must (have X := Lib.hid (show Blk w3 w.heap.size 29 #[.int .i64 p.kind, .int .u32 (p.tup.src.toNat : Nat), .int .u32 (p.tup.dst.toNat : Nat), .int .i64 p.tup.proto, .int .i64 p.tup.sport, .int .i64 p.tup.dport, .int .i64 p.fb, .int .i64 p.fg, .int .i64 p.fs, .int .i64 p.gen, .slice A3 m3 c3, .int .i64 p.back, .int .i64 p.until_, .int .i64 p.count] from h1))
           go_must (have B := Lib.hid (B.out.kept k1 (by simp)))
           go_must (have S := Lib.hid (BkV.far S.out k1 P.out (by decide) (by omega)))
           go_must (have hcx := X.out.cell)
           go_must (clear h1 k1))
        | ((with_reducible show wpList _ _ _ ({ dst := none, op := Op.store 29 (.tmp 4) (.tmp 32), type := _, pos := _, after := _, guard := _ } :: _) _ _); refine wpList_put (t := 29) rfl 29 (.tmp 4) (.tmp 32) rfl _ (by rfl) (by rfl) (by exact B.out) (by rfl) (by kernel_rfl) (by simp [Value.oneCell']) ?_; intro w9 hb9 hk9; have Hb9 := Lib.hid hb9; have Hk9 := Lib.hid hk9; clear hb9 hk9))
      refine bodyPost_ret (results_cell (t := 29) Try.results14 (by rfl) Hb9.out _ Try.underlying29 rfl (by kernel_rfl)) rfl ?_
      rw [HX.out]
      exact ⟨_, rfl, BkV.far S.out Hk9.out B.out (by decide) (by omega)⟩

end Go.Proofs.Ytoibecclilmllaa
