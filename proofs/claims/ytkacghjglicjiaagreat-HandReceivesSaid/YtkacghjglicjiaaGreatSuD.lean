/-
  What makes a state anew: plain laws.
-/
import Derived.Test.YtkacghjglicjiaaGreatSuA
namespace Go.Proofs.YtkacghjglicjiaaGreat
set_option linter.unusedVariables false
section
open Go.RowKit Go.ChangeShapes Go.WideShapes Go.ChangeAt Go.Deep Go.MapKept
def rGv (V : VwD) : RecD := { (default : RecD) with kind := 3, gen := V.gen, backs := V.backs }
def rDr (d : Int × Int) : RecD := { (default : RecD) with kind := 4, back := d.1, until_ := d.2 }
def rFl (f : FlD) : RecD := { (default : RecD) with kind := 1, tup := f.tup, fb := f.back, fg := f.gen, fs := f.seen }
def recsV (V : VwD) : List RecD := rGv V :: (V.drains.map rDr ++ V.flows.map rFl)
theorem BkArr.nil' (w : World) (G : List Nat) : BkArr w G (.slice none 0 0) [] := ⟨none, 0, 0, rfl, rfl, by omega, by unfold maxLen; omega, fun _ => ⟨rfl, rfl⟩, fun h => absurd rfl h⟩
theorem info_record : (Tryz.prog.info? 43).map (fun i => (i.zero, i.size, i.bytes)) = some (some (.agg #[.int .i64 0, .int .u32 0, .int .u32 0, .int .i64 0, .int .i64 0, .int .i64 0, .int .i64 0, .int .i64 0, .int .i64 0, .int .i64 0, .slice none 0 0, .int .i64 0, .int .i64 0, .int .i64 0]), 14, 120) := by kernel_rfl
theorem elem_record : Elem Tryz.prog 27 43 14 120 := Elem.mk' Tryz.underlying27 info_record rfl (by omega)
theorem own_blk {w : World} {g k : Nat} {t : TypeId} {cs : Array Value} (hb : Blk w g t cs) (hs : cs.size = k) : Own w t k (.slice (some ⟨g, 0, none⟩) 1 1) 1 cs.toList :=
  ⟨by simp [hs], .inr ⟨g, 1, cs, rfl, Nat.zero_le _, hb, by omega, by unfold maxLen; omega, by omega, by rw [List.take_of_length_le (by simp; omega)]⟩⟩
def RecN (W w : World) (v : Value) (l : List RecD) : Prop := ∃ css G, LVx RecDec 43 14 W w v l css G ∧ ∀ k ∈ G, W.heap.size ≤ k
theorem RecN.v {W w : World} {v : Value} {l : List RecD} (h : RecN W w v l) : RecV W w v l := by obtain ⟨css, G, hx, _⟩ := h; exact ⟨css, G, hx⟩
theorem RecN.go {W w w' : World} {v : Value} {l : List RecD} (h : RecN W w v l) (hk : Kept [] w w') : RecN W w' v l := by obtain ⟨css, G, hx, hg⟩ := h; exact ⟨css, G, hx.go RecOk hk, hg⟩
theorem RecN.kept {W w : World} {v : Value} {l : List RecD} (h : RecN W w v l) : Kept [] W w := LV.kept h.v
theorem RecN.wide {W W' w : World} {v : Value} {l : List RecD} (h : RecN W' w v l) (hk : Kept [] W W') : RecN W w v l := by
  obtain ⟨css, G, hx, hg⟩ := h
  exact ⟨css, G, ⟨hx.own, fun k hk' => Nat.le_trans hk.size (hx.new k hk'), hx.decs, hx.apart, hk.trans hx.keptW (by simp)⟩, fun k hk' => Nat.le_trans hk.size (hg k hk')⟩
theorem RecN.arr {W w : World} {v : Value} {l : List RecD} (h : RecN W w v l) : ∃ G, RecArr w G v l ∧ ∀ k ∈ G, W.heap.size ≤ k ∧ k < w.heap.size := by
  obtain ⟨css, G, hx, hg⟩ := h
  refine ⟨_, hx.arr RecOk, fun k hk => ⟨?_, hx.lt k hk⟩⟩
  rcases List.mem_append.1 hk with hk | hk
  · exact hg k hk
  · exact hx.new k hk
set_option maxRecDepth 100000 in
theorem RecN.one {W w : World} {g : Nat} {r : RecD} {A : Option Addr} {m c : Nat} (hb : Blk w g 43 #[.int .i64 r.kind, .int .u32 (r.tup.src.toNat : Nat), .int .u32 (r.tup.dst.toNat : Nat), .int .i64 r.tup.proto, .int .i64 r.tup.sport, .int .i64 r.tup.dport, .int .i64 r.fb, .int .i64 r.fg, .int .i64 r.fs, .int .i64 r.gen, .slice A m c, .int .i64 r.back, .int .i64 r.until_, .int .i64 r.count]) (hk : Kept [] W w) (hg : W.heap.size ≤ g) (hr : BkV W w (.slice A m c) r.backs) : RecN W w (.slice (some ⟨g, 0, none⟩) 1 1) [r] := by
  obtain ⟨b1, b2⟩ := lv_row BkOk (fun h => h) hr
  obtain ⟨css, G, hx⟩ := hr
  refine ⟨[[.int .i64 r.kind, .int .u32 (r.tup.src.toNat : Nat), .int .u32 (r.tup.dst.toNat : Nat), .int .i64 r.tup.proto, .int .i64 r.tup.sport, .int .i64 r.tup.dport, .int .i64 r.fb, .int .i64 r.fg, .int .i64 r.fs, .int .i64 r.gen, .slice A m c, .int .i64 r.back, .int .i64 r.until_, .int .i64 r.count]], rowOf (.slice A m c), ⟨own_blk hb rfl, fun k hk' => by simp [rowOf, Value.ownBlock] at hk'; omega, Decs.one' ⟨A, m, c, rfl, b1⟩, fun k hk' => ⟨fun hm => ?_, (b2 k hk').2⟩, hk⟩, fun k hk' => (b2 k hk').1⟩
  simp [rowOf, Value.ownBlock] at hm
  subst hm
  exact hx.own.ne_blk hb (by decide) hk'
set_option maxRecDepth 100000 in
theorem wpList_rec {ops : Array Oper} {rest : List Oper} {o : Oper} {a : Act} {Q : Exit → Act → World → Prop} {w0 : World} (hgd : o.guard = none) (s x : Operand)
    (ho : o.op = .call { callee := .builtin .append, args := #[s, x], argTypes := #[27, 27] }) {W : World} {sl : Value} {l : List RecD} {r : RecD}
    {g : Nat} (hs : a.eval s = sl) (hN : RecN W w0 sl l) (hx : a.eval x = .slice (some ⟨g, 0, none⟩) 1 1) (hb : Blk w0 g 43 #[.int .i64 r.kind, .int .u32 (r.tup.src.toNat : Nat), .int .u32 (r.tup.dst.toNat : Nat), .int .i64 r.tup.proto, .int .i64 r.tup.sport, .int .i64 r.tup.dport, .int .i64 r.fb, .int .i64 r.fg, .int .i64 r.fs, .int .i64 r.gen, .slice none 0 0, .int .i64 r.back, .int .i64 r.until_, .int .i64 r.count]) (hr : r.backs = []) (hl : l.length ≤ 100000)
    (h : ∀ A m c w', RecN W w' (.slice A m c) (l ++ [r]) → Kept (rowOf sl) w0 w' → (∀ k ∈ rowOf sl, W.heap.size ≤ k ∧ k < w0.heap.size) → wpList Tryz.prog ops Q rest (a.put o.dst (.slice A m c)) w') : wpList Tryz.prog ops Q (o :: rest) a w0 := by
  obtain ⟨css, G, h1, hG1⟩ := hN
  have hD : Decs RecDec w0 [] [[.int .i64 r.kind, .int .u32 (r.tup.src.toNat : Nat), .int .u32 (r.tup.dst.toNat : Nat), .int .i64 r.tup.proto, .int .i64 r.tup.sport, .int .i64 r.tup.dport, .int .i64 r.fb, .int .i64 r.fg, .int .i64 r.fs, .int .i64 r.gen, .slice none 0 0, .int .i64 r.back, .int .i64 r.until_, .int .i64 r.count]] [r] := Decs.one' ⟨none, 0, 0, rfl, by rw [hr]; exact BkArr.nil' _ _⟩
  have hrd : Rd w0 (some ⟨g, 0, none⟩) ([[.int .i64 r.kind, .int .u32 (r.tup.src.toNat : Nat), .int .u32 (r.tup.dst.toNat : Nat), .int .i64 r.tup.proto, .int .i64 r.tup.sport, .int .i64 r.tup.dport, .int .i64 r.fb, .int .i64 r.fg, .int .i64 r.fs, .int .i64 r.gen, .slice none 0 0, .int .i64 r.back, .int .i64 r.until_, .int .i64 r.count]].flatten) := fun hne => ⟨g, 0, rfl, fun j u hu => by
    rw [Nat.zero_add, hb.cell j]
    simpa using hu⟩
  refine wpList_app _ hgd s x 27 ho elem_record hs h1.own hx hrd rfl (hD.ones RecOk) (by unfold maxLen; omega) (by omega) (fun v' w' ho' hk hr' => ?_)
  have hx := LVx.app RecOk h1 (Kept.refl [] w0) hD (by simp) ho' (by simp) (by simp) hk hr'
  obtain ⟨A, m, c, rfl⟩ := Own.form' ho'
  exact h A m c w' ⟨_, _, hx, by simpa using hG1⟩ hk (fun k hk => ⟨h1.new k hk, h1.own.lt k hk⟩)
set_option maxRecDepth 100000 in
set_option maxHeartbeats 3200000 in
theorem recs_any (w : World) {G : List Nat} {A1 A2 A3 : Option Addr} {m1 c1 m2 c2 m3 c3 : Nat} (V : VwD) (h : VA w G A1 m1 c1 A2 m2 c2 A3 m3 c3 V) (hd : V.drains.length ≤ 1000) (hf : V.flows.length ≤ 1000) (hb : V.backs.length ≤ 1000) :
    Calls Tryz.prog 53 #[.agg #[.int .i64 V.gen, .slice A1 m1 c1, .slice A2 m2 c2, .slice A3 m3 c3]] w fun e w' => ∃ A m c, e = .returned (.slice A m c) ∧ RecN w w' (.slice A m c) (recsV V) := by
  have L1 := Lib.hid h.bk.len
  have L2 := Lib.hid h.dr.len
  have L3 := Lib.hid h.fl.len
  have H := Lib.hid h
  have hm1 : m1 ≤ 1000 := by rw [← h.bk.len.1]; exact hb
  have hm2 : m2 ≤ 1000 := by rw [← h.dr.len.1]; exact hd
  have hm3 : m3 ≤ 1000 := by rw [← h.fl.len.1]; exact hf
  clear h hd hf hb
  have X0 := Lib.hid (Blk.new w 26 #[.int .i64 V.gen, .slice A1 m1 c1, .slice A2 m2 c2, .slice A3 m3 c3])
  have K0 := Lib.hid ((Kept.refl [] w).alloc (.cells #[.int .i64 V.gen, .slice A1 m1 c1, .slice A2 m2 c2, .slice A3 m3 c3] 26))
  go_enter Tryz.func53, Tryz.ntmps53
  go_wp2
  obtain ⟨wa, hwa⟩ : ∃ wa, w.alloc (.cells #[.int .i64 V.gen, .slice A1 m1 c1, .slice A2 m2 c2, .slice A3 m3 c3] 26) = wa := ⟨_, rfl⟩
  have hsa : w.heap.size < wa.heap.size := by rw [← hwa]; simp
  rw [hwa] at X0 K0
  simp only [hwa]
  clear hwa
  have HA := Lib.hid (H.out.go K0.out)
  have HD := Lib.hid (HA.out.go ((Kept.refl [] wa).drew))
  have XD := Lib.hid (X0.out.kept ((Kept.refl [] wa).drew) (by simp))
  have hx0 := X0.out.cell
  go_region_held3 (fun w' => ∀ o, w'.cell? ⟨w.heap.size, o, none⟩ = (#[.int .i64 V.gen, .slice A1 m1 c1, .slice A2 m2 c2, .slice A3 m3 c3] : Array Value)[o]?)
    (exact (Blk.kept (S := []) X0.out (by repeat (first | exact Kept.refl _ _ | exact ((Kept.refl [] _).drew).trans K8.out (by simp) | apply Kept.alloc | apply Kept.drew)) (by simp)).cell)
    ((go_at_call 91; refine (CloneB_any _ V.backs HD.out.bk HD.out.lt (by omega)).mono ?_; rintro e w8 ⟨v8, rfl, hv8⟩; have hk8 := hv8.kept; have X8 := Lib.hid (XD.out.kept hk8 (by simp)); have hx8 := X8.out.cell; obtain ⟨A8, m8, c8, rfl⟩ := BkV.form hv8; have V8 := Lib.hid hv8; have K8 := Lib.hid hk8; clear hv8 hk8))
  have R9 := Lib.hid (show RecN w (w8.alloc (.cells #[.int .i64 (rGv V).kind, .int .u32 ((rGv V).tup.src.toNat : Nat), .int .u32 ((rGv V).tup.dst.toNat : Nat), .int .i64 (rGv V).tup.proto, .int .i64 (rGv V).tup.sport, .int .i64 (rGv V).tup.dport, .int .i64 (rGv V).fb, .int .i64 (rGv V).fg, .int .i64 (rGv V).fs, .int .i64 (rGv V).gen, .slice A8 m8 c8, .int .i64 (rGv V).back, .int .i64 (rGv V).until_, .int .i64 (rGv V).count] 43)) (.slice (some ⟨w8.heap.size, 0, none⟩) 1 1) [rGv V] from by
    have hkw : Kept [] w (w8.alloc (.cells #[.int .i64 (rGv V).kind, .int .u32 ((rGv V).tup.src.toNat : Nat), .int .u32 ((rGv V).tup.dst.toNat : Nat), .int .i64 (rGv V).tup.proto, .int .i64 (rGv V).tup.sport, .int .i64 (rGv V).tup.dport, .int .i64 (rGv V).fb, .int .i64 (rGv V).fg, .int .i64 (rGv V).fs, .int .i64 (rGv V).gen, .slice A8 m8 c8, .int .i64 (rGv V).back, .int .i64 (rGv V).until_, .int .i64 (rGv V).count] 43)) := ((K0.out.trans ((Kept.refl [] wa).drew) (by simp)).trans K8.out (by simp)).alloc _
    refine RecN.one (Blk.new w8 _ _) hkw ?_ ?_
    · have h1 := ((K0.out.trans ((Kept.refl [] wa).drew) (by simp)).trans K8.out (by simp)).size
      omega
    · exact LV.wide (LV.go BkOk V8.out ((Kept.refl [] w8).alloc _)) (K0.out.trans ((Kept.refl [] wa).drew) (by simp)))
  have X9 := Lib.hid (show Blk (w8.alloc (.cells #[.int .i64 (rGv V).kind, .int .u32 ((rGv V).tup.src.toNat : Nat), .int .u32 ((rGv V).tup.dst.toNat : Nat), .int .i64 (rGv V).tup.proto, .int .i64 (rGv V).tup.sport, .int .i64 (rGv V).tup.dport, .int .i64 (rGv V).fb, .int .i64 (rGv V).fg, .int .i64 (rGv V).fs, .int .i64 (rGv V).gen, .slice A8 m8 c8, .int .i64 (rGv V).back, .int .i64 (rGv V).until_, .int .i64 (rGv V).count] 43)) w.heap.size 26 #[.int .i64 V.gen, .slice A1 m1 c1, .slice A2 m2 c2, .slice A3 m3 c3] from (XD.out.kept K8.out (by simp)).alloc _)
  obtain ⟨w9, hw9⟩ : ∃ w9, w8.alloc (.cells #[.int .i64 (rGv V).kind, .int .u32 ((rGv V).tup.src.toNat : Nat), .int .u32 ((rGv V).tup.dst.toNat : Nat), .int .i64 (rGv V).tup.proto, .int .i64 (rGv V).tup.sport, .int .i64 (rGv V).tup.dport, .int .i64 (rGv V).fb, .int .i64 (rGv V).fg, .int .i64 (rGv V).fs, .int .i64 (rGv V).gen, .slice A8 m8 c8, .int .i64 (rGv V).back, .int .i64 (rGv V).until_, .int .i64 (rGv V).count] 43) = w9 := ⟨_, rfl⟩
  have hw9' : w8.alloc (.cells #[.int .i64 3, .int .u32 0, .int .u32 0, .int .i64 0, .int .i64 0, .int .i64 0, .int .i64 0, .int .i64 0, .int .i64 0, .int .i64 V.gen, .slice A8 m8 c8, .int .i64 0, .int .i64 0, .int .i64 0] 43) = w9 := hw9
  rw [hw9] at R9 X9
  simp only [hw9']
  clear hw9 hw9' V8 K8 HD XD HA hx0 X0 K0
  have hx9 := X9.out.cell
  go_wp2
  go_loopg [3, 18] m2 (fun gg s i wr => ∃ (j : Nat) (A : Option Addr) (m c : Nat), j ≤ m2 ∧ gg = m2 - j ∧ s = .slice A m c ∧ i = .int .i64 j ∧ RecN w wr (.slice A m c) ([rGv V] ++ (V.drains.take j).map rDr) ∧ Blk wr w.heap.size 26 #[.int .i64 V.gen, .slice A1 m1 c1, .slice A2 m2 c2, .slice A3 m3 c3])
  case atStart => exact ⟨0, _, _, _, by omega, by omega, rfl, rfl, by simpa using R9.out, X9.out⟩
  case round =>
    obtain ⟨j, Aj, mj, cj, hj, rfl, rfl, rfl, hR, hX⟩ := hrel
    have HR := Lib.hid hR
    have HX := Lib.hid hX
    clear hR hX
    by_cases hlt : j < m2
    · have hkl : j < V.drains.length := by rw [L2.out.1]; exact hlt
      obtain ⟨g, o, rfl, hg, hgG, c0, c1⟩ := ( (H.out.go HR.out.kept).dr).at (k := j) hkl
      have Htk := Lib.hid (show V.drains.take (j + 1) = V.drains.take j ++ [V.drains[j]] by rw [List.take_add_one, List.getElem?_eq_getElem hkl]; rfl)
      have hll : ([rGv V] ++ (V.drains.take j).map rDr).length ≤ 100000 := by
        have h1 := L2.out.1
        have h2 := L3.out.1
        simp
        omega
      generalize V.drains[j]'hkl = x at *
      have i0 : (0 : Int) ≤ (j : Int) := by omega
      have i1 : (j : Int) < (m2 : Int) := by omega
      have iw : IntKind.i64.wrap ((j : Int) + 1) = (j : Int) + 1 := IntWalk.i64_in _ (by omega)
      go_wp2_with (first
        | (((with_reducible show wpList _ _ _ ({ dst := none, op := Op.store 118 (.tmp 5) (.tmp 21), type := _, pos := _, after := _, guard := _ } :: _) _ _); refine wpList_put (t := 118) rfl 118 (.tmp 5) (.tmp 21) rfl _ (by rfl) (by rfl) (by (repeat (first | (apply Blk.new'; simp; done) | apply Blk.alloc | apply Blk.drew))) (by rfl) (by kernel_rfl) (by simp [Value.oneCell']) ?_; intro w5 hb5 hk5; have Hb5 := Lib.hid hb5; have Hk5 := Lib.hid hk5; clear hb5 hk5)
           have K5 := Lib.hid (((Kept.refl [] wr).alloc _).trans Hk5.out (fun i hi => .inr (by simp at hi; omega)))
           have hx5 := Hb5.out.cell)
        | (at_builtin
           have hk6 : Kept [] wr (w5.alloc (.cells #[.int .i64 (rDr x).kind, .int .u32 ((rDr x).tup.src.toNat : Nat), .int .u32 ((rDr x).tup.dst.toNat : Nat), .int .i64 (rDr x).tup.proto, .int .i64 (rDr x).tup.sport, .int .i64 (rDr x).tup.dport, .int .i64 (rDr x).fb, .int .i64 (rDr x).fg, .int .i64 (rDr x).fs, .int .i64 (rDr x).gen, .slice none 0 0, .int .i64 (rDr x).back, .int .i64 (rDr x).until_, .int .i64 (rDr x).count] 43)) := K5.out.alloc _
           have hN7 := HR.out.go hk6
           apply wpList_rec (r := rDr x) rfl (.tmp 22) (.tmp 28) rfl
           case hs => exact rfl
           case hN => exact hN7
           case hx => exact rfl
           case hb => exact Blk.new _ _ _
           case hr => exact rfl
           case hl => exact hll
           intro A7 m7 c7 w7 hR7 hk7 hn7
           have R7 := Lib.hid hR7
           have q1 := HX.out.kept hk6 (by simp)
           obtain ⟨css, Gs, hy, _⟩ := hN7
           have q2 := hy.own.ne_blk q1 (by decide)
           have X7 := Lib.hid (q1.kept hk7 q2)
           clear hR7 hk7 hn7 hk6 q1 q2 hy))
      go_roundg (m2 - (j + 1))
      case measure => omega
      case rel => exact ⟨j + 1, _, _, _, by omega, rfl, rfl, by go_num, by rw [Htk.out, List.map_append, ← List.append_assoc]; exact R7.out, X7.out⟩
    · obtain rfl : m2 = j := by omega
      have i1 : ¬ (m2 : Int) < (m2 : Int) := by omega
      have RE := Lib.hid (show RecN w wr (.slice Aj mj cj) ([rGv V] ++ V.drains.map rDr) by
        have := HR.out
        rwa [List.take_of_length_le (by rw [L2.out.1]; omega)] at this)
      have hxe := HX.out.cell
      go_wp2
      go_loopg [3, 34] m3 (fun gg s i wr => ∃ (j : Nat) (A : Option Addr) (m c : Nat), j ≤ m3 ∧ gg = m3 - j ∧ s = .slice A m c ∧ i = .int .i64 j ∧ RecN w wr (.slice A m c) (([rGv V] ++ V.drains.map rDr) ++ (V.flows.take j).map rFl) ∧ Blk wr w.heap.size 26 #[.int .i64 V.gen, .slice A1 m1 c1, .slice A2 m2 c2, .slice A3 m3 c3])
      case atStart => exact ⟨0, _, _, _, by omega, by omega, rfl, rfl, by simpa using RE.out, HX.out⟩
      case round =>
        obtain ⟨j, Aj, mj, cj, hj, rfl, rfl, rfl, hR, hX⟩ := hrel
        have HR := Lib.hid hR
        have HX := Lib.hid hX
        clear hR hX
        by_cases hlt : j < m3
        · have hkl : j < V.flows.length := by rw [L3.out.1]; exact hlt
          obtain ⟨g, o, rfl, hg, hgG, c0, c1, c2, c3, c4, c5, c6, c7⟩ := ( (H.out.go HR.out.kept).fl).at (k := j) hkl
          have Htk := Lib.hid (show V.flows.take (j + 1) = V.flows.take j ++ [V.flows[j]] by rw [List.take_add_one, List.getElem?_eq_getElem hkl]; rfl)
          have hll : (([rGv V] ++ V.drains.map rDr) ++ (V.flows.take j).map rFl).length ≤ 100000 := by
            have h1 := L2.out.1
            have h2 := L3.out.1
            simp
            omega
          generalize V.flows[j]'hkl = x at *
          have i0 : (0 : Int) ≤ (j : Int) := by omega
          have i1 : (j : Int) < (m3 : Int) := by omega
          have iw : IntKind.i64.wrap ((j : Int) + 1) = (j : Int) + 1 := IntWalk.i64_in _ (by omega)
          go_wp2_with (first
            | (((with_reducible show wpList _ _ _ ({ dst := none, op := Op.store 41 (.tmp 7) (.tmp 37), type := _, pos := _, after := _, guard := _ } :: _) _ _); refine wpList_put (t := 41) rfl 41 (.tmp 7) (.tmp 37) rfl _ (by rfl) (by rfl) (by (repeat (first | (apply Blk.new'; simp; done) | apply Blk.alloc | apply Blk.drew))) (by rfl) (by kernel_rfl) (by simp [Value.oneCell']) ?_; intro w5 hb5 hk5; have Hb5 := Lib.hid hb5; have Hk5 := Lib.hid hk5; clear hb5 hk5)
               have K5 := Lib.hid (((Kept.refl [] wr).alloc _).trans Hk5.out (fun i hi => .inr (by simp at hi; omega)))
               have hx5 := Hb5.out.cell)
            | (at_builtin
               have hk6 : Kept [] wr (w5.alloc (.cells #[.int .i64 (rFl x).kind, .int .u32 ((rFl x).tup.src.toNat : Nat), .int .u32 ((rFl x).tup.dst.toNat : Nat), .int .i64 (rFl x).tup.proto, .int .i64 (rFl x).tup.sport, .int .i64 (rFl x).tup.dport, .int .i64 (rFl x).fb, .int .i64 (rFl x).fg, .int .i64 (rFl x).fs, .int .i64 (rFl x).gen, .slice none 0 0, .int .i64 (rFl x).back, .int .i64 (rFl x).until_, .int .i64 (rFl x).count] 43)) := K5.out.alloc _
               have hN7 := HR.out.go hk6
               apply wpList_rec (r := rFl x) rfl (.tmp 38) (.tmp 41) rfl
               case hs => exact rfl
               case hN => exact hN7
               case hx => exact rfl
               case hb => exact Blk.new _ _ _
               case hr => exact rfl
               case hl => exact hll
               intro A7 m7 c7 w7 hR7 hk7 hn7
               have R7 := Lib.hid hR7
               have q1 := HX.out.kept hk6 (by simp)
               obtain ⟨css, Gs, hy, _⟩ := hN7
               have q2 := hy.own.ne_blk q1 (by decide)
               have X7 := Lib.hid (q1.kept hk7 q2)
               clear hR7 hk7 hn7 hk6 q1 q2 hy))
          go_roundg (m3 - (j + 1))
          case measure => omega
          case rel => exact ⟨j + 1, _, _, _, by omega, rfl, rfl, by go_num, by rw [Htk.out, List.map_append, ← List.append_assoc]; exact R7.out, X7.out⟩
        · obtain rfl : m3 = j := by omega
          have i1 : ¬ (m3 : Int) < (m3 : Int) := by omega
          have RE := Lib.hid (show RecN w wr (.slice Aj mj cj) (([rGv V] ++ V.drains.map rDr) ++ V.flows.map rFl) by
            have := HR.out
            rwa [List.take_of_length_le (by rw [L3.out.1]; omega)] at this)
          have hxe := HX.out.cell
          go_wp2
          go_ret
          exact ⟨_, _, _, rfl, by have := RE.out; rw [List.append_assoc] at this; exact this⟩
end
section
open Go.RowKit
def OkF (S : StD) : Prop := ∀ p ∈ S.flows, mayR (rFl p.2) = true
theorem OkF.new : OkF newS := by intro p hp; simp [newS] at hp
theorem may_flow {r : RecD} (h : mayR r = true) (h1 : r.kind = 1) : mayR (rFl (flowR r)) = true := by
  unfold mayR at h ⊢
  rw [if_pos h1] at h
  rw [if_pos (show (rFl (flowR r)).kind = 1 from rfl)]
  exact h
theorem err_may {S : StD} {r : RecD} (h : errS S r = 0) : badS r = false ∧ fullS S r = false := by
  unfold errS at h
  cases hb : badS r
  · rw [hb] at h
    cases hf : fullS S r
    · exact ⟨rfl, rfl⟩
    · rw [hf] at h; simp at h
  · rw [hb] at h; simp at h
theorem bad_mayR {r : RecD} (h : badS r = false) : mayR r = true := by
  cases hc : mayR r
  · simp [badS, hc] at h
  · rfl
theorem OkF.apply {S : StD} (h : OkF S) (r : RecD) : OkF (applyS S r) := by
  intro p hp
  rw [apply_flows] at hp
  by_cases he : errS S r = 0
  · rw [if_pos he] at hp
    by_cases h1 : r.kind = 1
    · rw [if_pos h1] at hp
      rcases put_mem hp with hp | rfl
      · exact h p hp
      · exact may_flow (bad_mayR (err_may he).1) h1
    · rw [if_neg h1] at hp
      by_cases h2 : r.kind = 2
      · rw [if_pos h2] at hp
        exact h p (List.mem_filter.1 hp).1
      · rw [if_neg h2] at hp
        exact h p hp
  · rw [if_neg he] at hp
    exact h p hp
def runS (S : StD) : List RecD → StD × Int
  | [] => (S, 0)
  | r :: l => if errS S r = 0 then runS (applyS S r) l else (S, errS S r)
theorem run_cons {S : StD} {r : RecD} {l : List RecD} (he : errS S r = 0) : runS S (r :: l) = runS (applyS S r) l := if_pos he
theorem run_ok {S : StD} (h : OkS S) : ∀ l : List RecD, OkS (runS S l).1
  | [] => h
  | r :: l => by
    unfold runS
    split
    · exact run_ok (h.apply r) l
    · exact h
theorem runS_app {S S' : StD} {l l' : List RecD} (h : runS S l = (S', 0)) : runS S (l ++ l') = runS S' l' := by
  induction l generalizing S with
  | nil => injection h with h1; subst h1; rfl
  | cons r l ih =>
    rw [List.cons_append]
    by_cases he : errS S r = 0
    · rw [run_cons he] at h ⊢
      exact ih h
    · rw [show runS S (r :: l) = (S, errS S r) from if_neg he] at h
      injection h with _ h2
      exact absurd h2 he
theorem run_drains {g : Int} {b : List BackD} {fs : List (TupD × FlD)} : ∀ (ds done : List (Int × Int)), ((done ++ ds).map (·.1)).Nodup → (done ++ ds).length ≤ 16 → (∀ p ∈ ds, (0 ≤ p.1 ∧ p.1 ≤ 65535) ∧ timeB p.2 = true) →
    runS ⟨g, b, done, fs⟩ (ds.map rDr) = (⟨g, b, done ++ ds, fs⟩, 0)
  | [], done, _, _, _ => by rw [List.append_nil]; rfl
  | d :: ds, done, hn, hl, hr => by
    have hd := hr d (by simp)
    have hm : mayR (rDr d) = true := by
      unfold mayR
      rw [if_neg (show ¬ (rDr d).kind = 1 by simp [rDr]), if_neg (show ¬ (rDr d).kind = 2 by simp [rDr]), if_neg (show ¬ (rDr d).kind = 3 by simp [rDr]), if_pos (show (rDr d).kind = 4 from rfl)]
      show (inB d.1 65535 && timeB d.2) = true
      unfold inB
      rw [decide_eq_true hd.1.1, decide_eq_true hd.1.2, hd.2]; rfl
    have hnone : getM done d.1 = none := by
      rw [getM_none]
      intro p hp e
      rw [List.map_append, List.nodup_append] at hn
      exact hn.2.2 p.1 (List.mem_map_of_mem hp) d.1 (by simp) e
    have hbad : badS (rDr d) = false := bad_not hm (by simp [rDr]) (by simp [rDr])
    have hfull : fullS ⟨g, b, done, fs⟩ (rDr d) = false := by
      unfold fullS
      rw [if_neg (show ¬ (rDr d).kind = 1 by simp [rDr]), if_pos (show (rDr d).kind = 4 from rfl)]
      simp at hl
      show (!(getM done d.1).isSome && decide (16 ≤ done.length)) = false
      rw [hnone, decide_eq_false (by omega)]; rfl
    obtain ⟨h1, h2⟩ := apply_good hbad hfull
    rw [List.map_cons, run_cons h1, h2]
    have e : doneS ⟨g, b, done, fs⟩ (rDr d) = ⟨g, b, done ++ [d], fs⟩ := by
      show (⟨g, b, putM done d.1 d.2, fs⟩ : StD) = _
      unfold putM
      rw [hnone]; rfl
    rw [e, run_drains ds (done ++ [d]) (by rw [List.append_assoc]; exact hn) (by rw [List.append_assoc]; exact hl) (fun p hp => hr p (by simp [hp])), List.append_assoc]
    rfl
theorem run_flows {g : Int} {b : List BackD} {ds : List (Int × Int)} : ∀ (fs : List FlD) (done : List (TupD × FlD)), ((done.map (·.1)) ++ fs.map (·.tup)).Nodup → done.length + fs.length ≤ 256 → (∀ f ∈ fs, mayR (rFl f) = true) →
    runS ⟨g, b, ds, done⟩ (fs.map rFl) = (⟨g, b, ds, done ++ fs.map fun f => (f.tup, f)⟩, 0)
  | [], done, _, _, _ => by rw [List.map_nil, List.map_nil, List.append_nil]; rfl
  | f :: fs, done, hn, hl, hr => by
    have hm := hr f (by simp)
    have hnone : getM done f.tup = none := by
      rw [getM_none]
      intro p hp e
      rw [List.nodup_append] at hn
      exact hn.2.2 p.1 (List.mem_map_of_mem hp) f.tup (by simp) e
    have hbad : badS (rFl f) = false := bad_not hm (by simp [rFl]) (by simp [rFl])
    have hfull : fullS ⟨g, b, ds, done⟩ (rFl f) = false := by
      unfold fullS
      rw [if_pos (show (rFl f).kind = 1 from rfl)]
      simp at hl
      show (!(getM done f.tup).isSome && decide (256 ≤ done.length)) = false
      rw [hnone, decide_eq_false (by omega)]; rfl
    obtain ⟨h1, h2⟩ := apply_good hbad hfull
    rw [List.map_cons, run_cons h1, h2]
    have e : doneS ⟨g, b, ds, done⟩ (rFl f) = ⟨g, b, ds, done ++ [(f.tup, f)]⟩ := by
      show (⟨g, b, ds, putM done f.tup (flowR (rFl f))⟩ : StD) = _
      unfold putM
      rw [hnone]; rfl
    rw [e, run_flows fs (done ++ [(f.tup, f)]) (by simpa using hn) (by simp at hl ⊢; omega) (fun p hp => hr p (by simp [hp])), List.map_cons]
    simp
theorem anew {S : StD} (ok : OkS S) (okf : OkF S) {V : VwD} (h : IsView S V) : ∃ T, runS newS (recsV V) = (T, 0) ∧ OkS T ∧ IsView T V := by
  have hm : mayR (rGv V) = true := by
    unfold mayR
    rw [if_neg (show ¬ (rGv V).kind = 1 by simp [rGv]), if_neg (show ¬ (rGv V).kind = 2 by simp [rGv]), if_pos (show (rGv V).kind = 3 from rfl)]
    show (inB V.gen 1000000 && (decide (V.backs.length ≤ 16) && V.backs.all mayB)) = true
    have hb := ok.mb
    unfold mayBs at hb
    simp only [Bool.and_eq_true] at hb
    rw [h.gen, h.backs, ok.rg, hb.1, hb.2.1]; rfl
  have hbad : badS (rGv V) = false := by
    unfold badS
    rw [hm, decide_eq_false (show ¬ (rGv V).kind = 6 by simp [rGv]), show mayBs (rGv V).backs = true from by show mayBs V.backs = true; rw [h.backs]; exact ok.mb]
    simp
  have hfull : fullS newS (rGv V) = false := by
    unfold fullS
    rw [if_neg (show ¬ (rGv V).kind = 1 by simp [rGv]), if_neg (show ¬ (rGv V).kind = 4 by simp [rGv])]
  obtain ⟨h1, h2⟩ := apply_good hbad hfull
  have e1 : doneS newS (rGv V) = ⟨V.gen, V.backs, [], []⟩ := rfl
  have hdn : (V.drains.map (·.1)).Nodup := ((h.dp.map (·.1)).nodup_iff).2 ok.nd
  have hdl : V.drains.length ≤ 16 := by rw [h.dp.length_eq]; exact ok.ld
  have r1 := run_drains (g := V.gen) (b := V.backs) (fs := []) V.drains [] (by simpa using hdn) (by simpa using hdl) (fun p hp => ok.rd p (h.dp.mem_iff.1 hp))
  have hfe : (S.flows.map (·.2)).map (·.tup) = S.flows.map (·.1) := by
    rw [List.map_map]
    exact List.map_congr_left fun p hp => ok.own p hp
  have hfn : (V.flows.map (·.tup)).Nodup := ((h.fp.map (·.tup)).nodup_iff).2 (by rw [hfe]; exact ok.nf)
  have hfl : V.flows.length ≤ 256 := by rw [h.fp.length_eq, List.length_map]; exact ok.lf
  have r2 := run_flows (g := V.gen) (b := V.backs) (ds := V.drains) V.flows [] (by simpa using hfn) (by simpa using hfl) (fun f hf => by
    obtain ⟨p, hp, rfl⟩ := List.mem_map.1 (h.fp.mem_iff.1 hf)
    exact okf p hp)
  rw [List.nil_append] at r1 r2
  refine ⟨⟨V.gen, V.backs, V.drains, V.flows.map fun f => (f.tup, f)⟩, ?_, ?_, ?_⟩
  · unfold recsV
    rw [run_cons h1, h2, e1, runS_app r1, r2]
  · have := run_ok OkS.new (recsV V)
    unfold recsV at this
    rw [run_cons h1, h2, e1, runS_app r1, r2] at this
    exact this
  · exact ⟨rfl, rfl, .refl _, h.ds, by rw [List.map_map]; show V.flows.Perm (V.flows.map fun f => f); rw [List.map_id'], h.fs⟩
theorem recs_len {S : StD} {V : VwD} (h : IsView S V) : ((recsV V).length : Int) = lenS S := by
  unfold recsV lenS
  have h1 := h.dp.length_eq
  have h2 := h.fp.length_eq
  simp at h2 ⊢
  omega
end
end Go.Proofs.YtkacghjglicjiaaGreat
