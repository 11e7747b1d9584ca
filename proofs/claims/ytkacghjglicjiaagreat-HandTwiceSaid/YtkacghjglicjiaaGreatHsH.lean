/-
  The hand-off's laws: rows of records, bytes put together; a law's way out where its arguments are too great.
-/
import Derived.Deep.DeepCutAuto
import Derived.BigQuiet
import Derived.Test.YtkacghjglicjiaaGreatCut
namespace Go.Proofs.YtkacghjglicjiaaGreat
set_option linter.unusedVariables false
section
open Go.RowKit Go.ChangeShapes Go.WideShapes Go.ChangeAt Go.Deep Go.MapKept
set_option maxRecDepth 100000 in
theorem wpList_recs {ops : Array Oper} {rest : List Oper} {o : Oper} {a : Act} {Q : Exit → Act → World → Prop} {w0 : World} (hgd : o.guard = none) (s x : Operand)
    (ho : o.op = .call { callee := .builtin .append, args := #[s, x], argTypes := #[27, 27] }) {G : List Nat} {A : Option Addr} {m c : Nat} {l : List RecD}
    (hs : a.eval s = .slice none 0 0) (hx : a.eval x = .slice A m c) (h : RecArr w0 G (.slice A m c) l) (hG : ∀ g ∈ G, g < w0.heap.size) (hl : l.length ≤ 100000)
    (k : ∀ B n d w', RecV w0 w' (.slice B n d) l → wpList Tryz.prog ops Q rest (a.put o.dst (.slice B n d)) w') : wpList Tryz.prog ops Q (o :: rest) a w0 := by
  obtain ⟨A', m', c', css, e, h1, h2, h3, h4, hD, hlen, hrd⟩ := ArrOf.decs h
  injection e with e1 e2 e3
  subst e1 e2 e3
  refine wpList_app _ hgd s x 27 ho elem_record hs (Own.nil _ _ _) hx hrd (by rw [flat_len hlen, hD.1, h1]) (hD.ones RecOk) (by unfold maxLen; omega) (by omega) (fun v' w' ho' hk hr' => ?_)
  have h0 : LVx RecDec 43 14 w0 w0 (.slice none 0 0) ([] : List RecD) [] [] := ⟨Own.nil _ _ _, by simp [rowOf, Value.ownBlock], Decs.nil, by simp, Kept.refl _ _⟩
  have hx := LVx.app RecOk h0 (Kept.refl [] w0) hD (fun k hk => ⟨by simp [rowOf, Value.ownBlock], hG k hk⟩) ho' (by simp [h1]) (by simp) hk hr'
  obtain ⟨A, m, c, rfl⟩ := Own.form' ho'
  exact k A m c w' ⟨_, _, hx⟩
set_option maxRecDepth 100000 in
theorem wpList_recw {ops : Array Oper} {rest : List Oper} {o : Oper} {a : Act} {Q : Exit → Act → World → Prop} {w0 : World} (hgd : o.guard = none) (s x : Operand)
    (ho : o.op = .call { callee := .builtin .append, args := #[s, x], argTypes := #[27, 27] }) {W : World} {sl : Value} {l : List RecD} {r : RecD}
    {g : Nat} (hs : a.eval s = sl) (hN : RecV W w0 sl l) (hx : a.eval x = .slice (some ⟨g, 0, none⟩) 1 1) (hb : Blk w0 g 43 #[.int .i64 r.kind, .int .u32 (r.tup.src.toNat : Nat), .int .u32 (r.tup.dst.toNat : Nat), .int .i64 r.tup.proto, .int .i64 r.tup.sport, .int .i64 r.tup.dport, .int .i64 r.fb, .int .i64 r.fg, .int .i64 r.fs, .int .i64 r.gen, .slice none 0 0, .int .i64 r.back, .int .i64 r.until_, .int .i64 r.count]) (hr : r.backs = []) (hl : l.length ≤ 100000)
    (h : ∀ A m c w', RecV W w' (.slice A m c) (l ++ [r]) → wpList Tryz.prog ops Q rest (a.put o.dst (.slice A m c)) w') : wpList Tryz.prog ops Q (o :: rest) a w0 := by
  obtain ⟨css, G, h1⟩ := hN
  have hD : Decs RecDec w0 [] [[.int .i64 r.kind, .int .u32 (r.tup.src.toNat : Nat), .int .u32 (r.tup.dst.toNat : Nat), .int .i64 r.tup.proto, .int .i64 r.tup.sport, .int .i64 r.tup.dport, .int .i64 r.fb, .int .i64 r.fg, .int .i64 r.fs, .int .i64 r.gen, .slice none 0 0, .int .i64 r.back, .int .i64 r.until_, .int .i64 r.count]] [r] := Decs.one' ⟨none, 0, 0, rfl, by rw [hr]; exact BkArr.nil' _ _⟩
  have hrd : Rd w0 (some ⟨g, 0, none⟩) ([[.int .i64 r.kind, .int .u32 (r.tup.src.toNat : Nat), .int .u32 (r.tup.dst.toNat : Nat), .int .i64 r.tup.proto, .int .i64 r.tup.sport, .int .i64 r.tup.dport, .int .i64 r.fb, .int .i64 r.fg, .int .i64 r.fs, .int .i64 r.gen, .slice none 0 0, .int .i64 r.back, .int .i64 r.until_, .int .i64 r.count]].flatten) := fun hne => ⟨g, 0, rfl, fun j u hu => by
    rw [Nat.zero_add, hb.cell j]
    simpa using hu⟩
  refine wpList_app _ hgd s x 27 ho elem_record hs h1.own hx hrd rfl (hD.ones RecOk) (by unfold maxLen; omega) (by omega) (fun v' w' ho' hk hr' => ?_)
  have hx := LVx.app RecOk h1 (Kept.refl [] w0) hD (by simp) ho' (by simp) (by simp) hk hr'
  obtain ⟨A, m, c, rfl⟩ := Own.form' ho'
  exact h A m c w' ⟨_, _, hx⟩
theorem wpList_cat0 {ops : Array Oper} {rest : List Oper} {o : Oper} {a : Act} {Q : Exit → Act → World → Prop} {w0 : World} (hgd : o.guard = none) (s x : Operand)
    (ho : o.op = .call { callee := .builtin .append, args := #[s, x], argTypes := #[31, 31] }) {G : List Nat} {B : Option Addr} {m d : Nat} {cs : List UInt8}
    (hs : a.eval s = .slice (some ⟨w0.heap.size, 0, none⟩) 0 0) (hx : a.eval x = .slice B m d) (hR : RdB w0 G (.slice B m d) cs) (hl : m ≤ 1000000000)
    (h : ∀ A c w', NB w0 w' (.slice A m c) cs → wpList Tryz.prog ops Q rest (a.put o.dst (.slice A m c)) w') : wpList Tryz.prog ops Q (o :: rest) a (w0.alloc (.cells #[] 5)) := by
  obtain ⟨h1, h2, h3, h4⟩ := hR.len
  refine wpList_app _ hgd s x 31 ho elem_u8 hs (World.ownsRow_made w0 #[] 0 (Nat.zero_le _) (by unfold maxLen; omega) rfl) hx (hR.kept ((Kept.refl [] w0).alloc _) (by simp)).rd (by rw [u8s_len, h1, Nat.mul_one]) (u8s_one _) (by unfold maxLen; omega) (by omega) (fun v' w' ho' hk hr' => ?_)
  have k6 : Kept [] w0 w' := ((Kept.refl [] w0).alloc _).trans hk (fun i hi => .inr (by simp [rowOf, Value.ownBlock] at hi; omega))
  have hrr : ∀ k ∈ rowOf v', w0.heap.size ≤ k := fun k hk' => (hr' k hk').elim (fun h3 => by simp [rowOf, Value.ownBlock] at h3; omega) (fun h3 => by simp at h3; omega)
  have hcc : NB w0 w' v' cs := NB.of ⟨by simpa using ho', k6, hrr⟩
  obtain ⟨A, m', c, rfl⟩ := hcc.form
  obtain rfl : m' = m := by have := hcc.rd.len.1; omega
  exact h A c w' hcc
theorem wpList_catk {ops : Array Oper} {rest : List Oper} {o : Oper} {a : Act} {Q : Exit → Act → World → Prop} {w0 : World} (hgd : o.guard = none) (s x : Operand)
    (ho : o.op = .call { callee := .builtin .append, args := #[s, x], argTypes := #[31, 31] }) {W : World} {v : Value} {bs : List UInt8} {G : List Nat} {B : Option Addr} {m d : Nat} {cs : List UInt8}
    (hs : a.eval s = v) (hN : NB W w0 v bs) (hx : a.eval x = .slice B m d) (hR : RdB w0 G (.slice B m d) cs) (hl : bs.length + m ≤ 1000000000)
    (h : ∀ A c w', NB W w' (.slice A (bs.length + m) c) (bs ++ cs) → Kept (rowOf v) w0 w' → wpList Tryz.prog ops Q rest (a.put o.dst (.slice A (bs.length + m) c)) w') : wpList Tryz.prog ops Q (o :: rest) a w0 := by
  obtain ⟨h1, h2, h3, h4⟩ := hR.len
  refine wpList_app _ hgd s x 31 ho elem_u8 hs hN.1 hx hR.rd (by rw [u8s_len, h1, Nat.mul_one]) (u8s_one _) (by unfold maxLen; omega) (by omega) (fun v' w' ho' hk hr' => ?_)
  have hn := hN.app ho' hk hr'
  obtain ⟨A, m', c, rfl⟩ := hn.form
  obtain rfl : m' = bs.length + m := by have := hn.rd.len.1; rw [List.length_append] at this; omega
  exact h A c w' hn hk
theorem idxS_0 (w : World) (a b c d e f g h : Value) : (Instr.index 30 (.agg #[a, b, c, d, e, f, g, h]) (.int .i64 0)).run Tryz.prog w = .ok (.agg #[a, b, c, d]) w := by kernel_rfl
theorem idxS_1 (w : World) (a b c d e f g h : Value) : (Instr.index 30 (.agg #[a, b, c, d, e, f, g, h]) (.int .i64 1)).run Tryz.prog w = .ok (.agg #[e, f, g, h]) w := by kernel_rfl
theorem body_tight {r : RecD} (h : mayR r = true) : (bodyR r 3).length ≤ 200 := by
  unfold bodyR
  repeat' split
  all_goals simp only [List.length_append, tupB_len, u16B_len, u32B_len, u8B_len, i64B_len, List.length_nil]
  all_goals try omega
  rename_i h1 h2 h3
  have hl : r.backs.length ≤ 16 := by
    unfold mayR at h
    rw [if_neg h1, if_neg h2, if_pos h3] at h
    simp at h
    exact h.2.1
  have hb : ∀ l : List BackD, (l.flatMap (backB 3)).length = 7 * l.length := by
    intro l
    induction l with
    | nil => rfl
    | cons b l ih =>
      rw [List.flatMap_cons, List.length_append, ih, List.length_cons]
      have : (backB 3 b).length = 7 := by simp [backB, u16B_len, u8B_len, beK_len]
      omega
  rw [hb]
  omega
theorem strm_tight : ∀ l : List RecD, (∀ r ∈ l, Snt r) → (strm l).length ≤ 216 * l.length
  | [], _ => by simp [strm, joinF_nil]
  | r :: l, h => by
    have h1 := strm_tight l (fun r hr => h r (by simp [hr]))
    have h2 := h r (by simp)
    have h3 := body_tight h2.may
    have h4 := putF_len h2.put
    rw [encF_yes (by decide) h2.may] at h4
    simp only at h4
    unfold strm at h1 ⊢
    rw [List.map_cons, joinF_cons, List.length_append, List.length_cons, encF_yes (by decide) h2.may]
    omega
theorem sent_le {S : StD} (ok : OkS S) (okf : OkF S) {V : VwD} (h : IsView S V) {now : Int} (ht : timeB now = true) : (strm (sentR V now)).length ≤ 100000 := by
  have h1 := strm_tight _ (snt_all ok okf h ht)
  have h2 := h.lens ok
  rw [sent_len, rlen] at h1
  omega
end
end Go.Proofs.YtkacghjglicjiaaGreat
