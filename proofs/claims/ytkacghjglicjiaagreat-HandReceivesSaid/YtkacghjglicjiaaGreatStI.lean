/-
  What an iterator gives, appended to a slice of flows (inside a fence).
-/
import Derived.Shelf.SlIterI.Sorted
import Derived.Sort.LoopGhostIn
import Derived.Test.YtkacghjglicjiaaGreatStD
namespace Go.Proofs.YtkacghjglicjiaaGreat
set_option linter.unusedVariables false
section
open Go.RowKit Go.Maps Go.Sort Go.Shelf Go.MapKept Go.ChangeMaps
theorem Kept.grown_none {w w' : World} (h : Kept [] w w') : w.grownBy w' none := ⟨h.os, h.tape, h.output, h.size, fun k hk _ => h.block k hk (by simp)⟩
theorem Kept.grown_one {w w' : World} {r : Nat} (h : Kept [r] w w') : w.grownBy w' (some r) := ⟨h.os, h.tape, h.output, h.size, fun k hk hne => h.block k hk (by simpa using fun e => hne (by rw [e]))⟩
section
variable {κ ν : Type} {ek : κ → Value} {ev : ν → Value} {P : Program} {F : Fence} {n : Nat} {w w' : World} {b r : Nat} {m left : List (κ × ν)}
theorem Rng.of_walks (h : Rng ek ev w b r m left) (hk : KeepsWalks w w') : Rng ek ev w' b r m left := by
  obtain ⟨⟨es, clock, seen, h1, he, hc, hd, h2, h3⟩, hn⟩ := h
  exact ⟨⟨es, clock, seen, hk.same b _ h1 rfl, he, hc, hd, hk.same r _ h2 rfl, h3⟩, hn⟩
theorem Rng.iter_walk (h : Rng ek ev w b r m left) : ∃ o : Obj, w.heap[r]? = some o ∧ o.isWalk = true := by
  obtain ⟨⟨es, clock, seen, h1, he, hc, hd, h2, h3⟩, hn⟩ := h
  exact ⟨_, h2, rfl⟩
variable {ops : Array Oper} {rest : List Oper} {o : Oper} {a : Act} {Q : Exit → Act → World → Prop}
theorem wpListIn_rangeM (hg : o.guard = none) (mo : Operand) (t : TypeId) (hop : o.op = Op.range t mo) {k e : TypeId} (ht : P.underlying t = some (.map k e))
    (hm : a.eval mo = .map (some b)) (h : MapB ek ev w b m)
    (hK : ∀ w', Rng ek ev w' b w.heap.size m m → Kept [] w w' → w'.heap.size = w.heap.size + 1 → wpListIn F n P ops Q rest (a.put o.dst (.pointer (some ⟨w.heap.size, 0, none⟩))) w') : wpListIn F n P ops Q (o :: rest) a w := by
  refine wpListIn_plain hg fun K' hK' => ?_
  obtain ⟨w', hrun, h1, h2, h3⟩ := h.range ht
  unfold Oper.wpIn
  refine ⟨by simp [Oper.about, hop], ?_⟩
  rw [Oper.semAt_plain F _ _ (by rw [hop]; intro c hc'; cases hc')]
  simp [execOp, hop, hm, hrun, Result.andThen]
  exact hK' _ _ (hK w' h1 h2 h3)
theorem wpListIn_nextM (hg : o.guard = none) (it : Operand) (hop : o.op = Op.next it false) (hit : a.eval it = .pointer (some ⟨r, 0, none⟩)) (h : Rng ek ev w b r m left)
    (hDone : left = [] → wpListIn F n P ops Q rest (a.put o.dst (.tuple #[.bool false])) w)
    (hMore : ∀ (p : κ × ν) (left' : List (κ × ν)) (w' : World), left.Perm (p :: left') → Rng ek ev w' b r m left' → Kept [r] w w' → w'.heap.size = w.heap.size → (Instr.entry (.pointer (some ⟨r, 0, none⟩))).run P w' = .ok (.tuple #[ek p.1, ev p.2]) w' →
      wpListIn F n P ops Q rest (a.put o.dst (.tuple #[.bool true, ek p.1, ev p.2])) w') : wpListIn F n P ops Q (o :: rest) a w := by
  refine wpListIn_plain hg fun K' hK' => ?_
  unfold Oper.wpIn
  refine ⟨by simp [Oper.about, hop], ?_⟩
  rw [Oper.semAt_plain F _ _ (by rw [hop]; intro c hc'; cases hc')]
  rcases h.next (P := P) o.type with ⟨h0, hrun⟩ | ⟨p, left', w', hp, hrun, h1, h2, h3, h4⟩
  · simp [execOp, hop, hit, hrun, Result.andThen]
    exact hK' _ _ (hDone h0)
  · simp [execOp, hop, hit, hrun, Result.andThen]
    exact hK' _ _ (hMore p left' w' hp h1 h2 h3 h4)
end
theorem perm_step {α β : Type} {ss : List β} {left left' : List α} {p : α} {f : α → β} {m : List β} (h : (ss ++ left.map f).Perm m) (hp : left.Perm (p :: left')) : ((ss ++ [f p]) ++ left'.map f).Perm m :=
  (by rw [List.append_assoc]; exact (List.Perm.append_left ss (hp.map f)).symm.trans h)
set_option maxRecDepth 100000 in
set_option maxHeartbeats 1000000 in
theorem values_in (F : Fence) (n : Nat) (hF : F.fn 131) (hro : F.round = none) (hn : 1 ≤ n) (l Bm b : Nat) (m : List (TupD × FlD)) (J : List FlD → World → Prop)
    (hY : ∀ pre x W, J pre W → pre.length < m.length → YieldAt F (n - 1) Tryz.prog l #[evF x] W fun e W' => e = .returned (.bool true) ∧ J (pre ++ [x]) W' ∧ KeepsWalks W W')
    (W : World) (hJ : AbidesFrom W.heap.size J) (hm : W.cell? ⟨Bm, 0, none⟩ = some (.map (some b))) (hown : MapB ekT evF W b m) (h0 : J [] W) :
    CallsIn F n Tryz.prog 131 #[.func (.yield l) #[] #[], .pointer (some ⟨Bm, 0, none⟩)] W fun e W' => (∃ v, e = .returned v) ∧ ∃ ss : List FlD, ss.Perm (m.map (·.2)) ∧ J ss W' := by
  have ht := Tryz.underlying142
  refine callsIn_of_wp Tryz.func131 rfl hF ?_ hro
  simp only [Tryz.ntmps131, List.size_toArray, List.length_cons, List.length_nil, Nat.reduceAdd, Nat.reduceSub, Array.replicate_succ, Array.replicate_zero, List.push_toArray, List.append_toArray, List.nil_append, List.cons_append]
  gi_wp2_with (first
    | (gi_at_range; refine wpListIn_rangeM rfl _ 142 rfl ht rfl hown ?_; intro w0 hrg0 hg0 hs0)
    | gi_in)
  go_frame
  gi_loopg [4] m.length (fun gg _ wr => ∃ (left : List (TupD × FlD)) (ss : List FlD), gg = left.length ∧ Rng ekT evF wr b W.heap.size m left ∧ (ss ++ left.map (·.2)).Perm (m.map (·.2)) ∧ J ss wr)
  case atStart => exact ⟨m, [], rfl, hrg0, by simp, hJ [] W w0 none h0 hg0.grown_none (fun r e => by cases e)⟩
  case round =>
    obtain ⟨left, ss, rfl, hrg, hC, hJs⟩ := hrel
    gi_wp2_with (first
      | (gi_at_next; refine wpListIn_nextM rfl _ rfl rfl hrg ?_ ?_)
      | gi_in)
    · intro hl0
      subst hl0
      gi_wp2
      go_end0
      exact ⟨⟨_, rfl⟩, ss, by simpa using hC, hJs⟩
    · intro t f left' w2 hp hrg2 hk2 hs2 hen
      have hlen : ss.length < m.length := by
        have h1 := hC.length_eq
        have h2 := hp.length_eq
        simp at h1 h2
        omega
      have HP := Lib.hid hp
      have HC := Lib.hid (perm_step (f := (·.2)) hC hp)
      have HS := Lib.hid hs2
      have HE : (Instr.entry (.pointer (some ⟨W.heap.size, 0, none⟩))).run Tryz.prog w2 = .ok (.tuple #[.agg #[.int .u32 (t.src.toNat : Nat), .int .u32 (t.dst.toNat : Nat), .int .i64 t.proto, .int .i64 t.sport, .int .i64 t.dport], .agg #[.int .u32 (f.tup.src.toNat : Nat), .int .u32 (f.tup.dst.toNat : Nat), .int .i64 f.tup.proto, .int .i64 f.tup.sport, .int .i64 f.tup.dport, .int .i64 f.back, .int .i64 f.gen, .int .i64 f.seen]]) w2 := hen
      have hJ2 : J ss w2 := hJ ss wr w2 (some W.heap.size) hJs hk2.grown_one (fun r e => by cases e; exact ⟨Nat.le_refl _, hrg.iter_walk⟩)
      have HK2 := Lib.hid hk2
      clear hp hC hs2 hen hJs hk2
      have hev : evF f = .agg #[.int .u32 (f.tup.src.toNat : Nat), .int .u32 (f.tup.dst.toNat : Nat), .int .i64 f.tup.proto, .int .i64 f.tup.sport, .int .i64 f.tup.dport, .int .i64 f.back, .int .i64 f.gen, .int .i64 f.seen] := rfl
      have hek : ekT t = .agg #[.int .u32 (t.src.toNat : Nat), .int .u32 (t.dst.toNat : Nat), .int .i64 t.proto, .int .i64 t.sport, .int .i64 t.dport] := rfl
      rw [hev, hek]
      have HJ3 := Lib.hid (show J ss (w2.alloc (.cells #[.int .u32 (f.tup.src.toNat : Nat), .int .u32 (f.tup.dst.toNat : Nat), .int .i64 f.tup.proto, .int .i64 f.tup.sport, .int .i64 f.tup.dport, .int .i64 f.back, .int .i64 f.gen, .int .i64 f.seen] 41)) from hJ ss w2 _ none hJ2 ((Kept.refl [] w2).alloc _).grown_none (fun r e => by cases e))
      obtain ⟨fn, tmps, assign, body, hy, hR⟩ := hY ss f _ HJ3.out hlen
      rw [hev] at hy
      have HR := Lib.hid hR
      clear hR hJ2 hev hek
      gi_wp2
      refine HR.out.mono ?_
      rintro e W3 ⟨rfl, hJ3, hk3⟩
      have HJ4 := Lib.hid hJ3
      have hrg3 := (hrg2.kept (S := []) ((Kept.refl [] w2).alloc _) (by simp) (by simp)).of_walks hk3
      clear hJ3 hk3 hrg2 hy
      gi_wp2
      gi_roundg left'.length
      case rel => exact ⟨left', ss ++ [f], rfl, hrg3, HC.out, HJ4.out⟩
      case measure => have := HP.out.length_eq; simp at this; omega
theorem values_gives (F : Fence) (n : Nat) (hF : F.fn 131) (hro : F.round = none) (hn : 1 ≤ n) (Bm b : Nat) (m : List (TupD × FlD)) (w : World) (hBm : Bm < w.heap.size)
    (hm : w.cell? ⟨Bm, 0, none⟩ = some (.map (some b))) (hown : MapB ekT evF w b m) :
    SeqGives F n Tryz.prog 131 #[.pointer (some ⟨Bm, 0, none⟩)] evF (fun ss => ss.Perm (m.map (·.2))) m.length w := fun l J W hW hJ hY h0 =>
  values_in F n hF hro hn l Bm b m J hY W hJ ((hW.cell (p := ⟨Bm, 0, none⟩) hBm).trans hm) (by
    obtain ⟨⟨es, clock, hb, r⟩, hn⟩ := hown
    exact ⟨⟨es, clock, (hW.block b (Array.getElem?_eq_some_iff.1 hb).1).trans hb, r⟩, hn⟩) h0
set_option maxRecDepth 100000 in
set_option maxHeartbeats 1000000 in
theorem keys_in (F : Fence) (n : Nat) (hF : F.fn 128) (hro : F.round = none) (hn : 1 ≤ n) (l Bm b : Nat) (m : List (Int × Int)) (J : List Int → World → Prop)
    (hY : ∀ pre x W, J pre W → pre.length < m.length → YieldAt F (n - 1) Tryz.prog l #[encZ x] W fun e W' => e = .returned (.bool true) ∧ J (pre ++ [x]) W' ∧ KeepsWalks W W')
    (W : World) (hJ : AbidesFrom W.heap.size J) (hm : W.cell? ⟨Bm, 0, none⟩ = some (.map (some b))) (hown : MapB ekI evI W b m) (h0 : J [] W) :
    CallsIn F n Tryz.prog 128 #[.func (.yield l) #[] #[], .pointer (some ⟨Bm, 0, none⟩)] W fun e W' => (∃ v, e = .returned v) ∧ ∃ ss : List Int, ss.Perm (m.map (·.1)) ∧ J ss W' := by
  have ht := Tryz.underlying141
  refine callsIn_of_wp Tryz.func128 rfl hF ?_ hro
  simp only [Tryz.ntmps128, List.size_toArray, List.length_cons, List.length_nil, Nat.reduceAdd, Nat.reduceSub, Array.replicate_succ, Array.replicate_zero, List.push_toArray, List.append_toArray, List.nil_append, List.cons_append]
  gi_wp2_with (first
    | (gi_at_range; refine wpListIn_rangeM rfl _ 141 rfl ht rfl hown ?_; intro w0 hrg0 hg0 hs0)
    | gi_in)
  go_frame
  gi_loopg [3] m.length (fun gg _ wr => ∃ (left : List (Int × Int)) (ss : List Int), gg = left.length ∧ Rng ekI evI wr b W.heap.size m left ∧ (ss ++ left.map (·.1)).Perm (m.map (·.1)) ∧ J ss wr)
  case atStart => exact ⟨m, [], rfl, hrg0, by simp, hJ [] W w0 none h0 hg0.grown_none (fun r e => by cases e)⟩
  case round =>
    obtain ⟨left, ss, rfl, hrg, hC, hJs⟩ := hrel
    gi_wp2_with (first
      | (gi_at_next; refine wpListIn_nextM rfl _ rfl rfl hrg ?_ ?_)
      | gi_in)
    · intro hl0
      subst hl0
      gi_wp2
      go_end0
      exact ⟨⟨_, rfl⟩, ss, by simpa using hC, hJs⟩
    · intro t f left' w2 hp hrg2 hk2 hs2 hen
      have hlen : ss.length < m.length := by
        have h1 := hC.length_eq
        have h2 := hp.length_eq
        simp at h1 h2
        omega
      have HP := Lib.hid hp
      have HC := Lib.hid (perm_step (f := (·.1)) hC hp)
      have HS := Lib.hid hs2
      have HE : (Instr.entry (.pointer (some ⟨W.heap.size, 0, none⟩))).run Tryz.prog w2 = .ok (.tuple #[.int .i64 t, .int .i64 f]) w2 := hen
      have hJ2 : J ss w2 := hJ ss wr w2 (some W.heap.size) hJs hk2.grown_one (fun r e => by cases e; exact ⟨Nat.le_refl _, hrg.iter_walk⟩)
      have HK2 := Lib.hid hk2
      clear hp hC hs2 hen hJs hk2
      have hev : evI f = .int .i64 f := rfl
      have hek : ekI t = .int .i64 t := rfl
      rw [hev, hek]
      obtain ⟨fn, tmps, assign, body, hy, hR⟩ := hY ss t w2 hJ2 hlen
      have hez : encZ t = .int .i64 t := rfl
      rw [hez] at hy
      have HR := Lib.hid hR
      clear hR hJ2 hev hek hez
      gi_wp2
      refine HR.out.mono ?_
      rintro e W3 ⟨rfl, hJ3, hk3⟩
      have HJ4 := Lib.hid hJ3
      have hrg3 := hrg2.of_walks hk3
      clear hJ3 hk3 hrg2 hy
      gi_wp2
      gi_roundg left'.length
      case rel => exact ⟨left', ss ++ [t], rfl, hrg3, HC.out, HJ4.out⟩
      case measure => have := HP.out.length_eq; simp at this; omega
theorem keys_gives (F : Fence) (n : Nat) (hF : F.fn 128) (hro : F.round = none) (hn : 1 ≤ n) (Bm b : Nat) (m : List (Int × Int)) (w : World) (hBm : Bm < w.heap.size)
    (hm : w.cell? ⟨Bm, 0, none⟩ = some (.map (some b))) (hown : MapB ekI evI w b m) :
    SeqGives F n Tryz.prog 128 #[.pointer (some ⟨Bm, 0, none⟩)] encZ (fun ss => ss.Perm (m.map (·.1))) m.length w := fun l J W hW hJ hY h0 =>
  keys_in F n hF hro hn l Bm b m J hY W hJ ((hW.cell (p := ⟨Bm, 0, none⟩) hBm).trans hm) (by
    obtain ⟨⟨es, clock, hb, r⟩, hn⟩ := hown
    exact ⟨⟨es, clock, (hW.block b (Array.getElem?_eq_some_iff.1 hb).1).trans hb, r⟩, hn⟩) h0
end
section
open Go.RowKit Go.Maps Go.Sort Go.Shelf Go.MapKept Go.ChangeMaps
theorem info_flow : (Tryz.prog.info? 41).map (fun i => (i.zero, i.size, i.bytes)) = some (some (.agg #[.int .u32 0, .int .u32 0, .int .i64 0, .int .i64 0, .int .i64 0, .int .i64 0, .int .i64 0, .int .i64 0]), 8, 56) := by kernel_rfl
theorem elem_flow : Elem Tryz.prog 24 41 8 56 := Elem.mk' Tryz.underlying24 info_flow rfl (by omega)
noncomputable def partsOf : Option Code → Code × Code
  | some (.seq _ (.seq (.seq _ (.block _ (.rangeFunc _ _ a b))) _)) => (a, b)
  | _ => (.skip, .skip)
noncomputable def apA : Code := (partsOf Tryz.f143.body).1
noncomputable def apB : Code := (partsOf Tryz.f143.body).2
noncomputable def apRec (fn : FuncId) (sv : Value) (Bs D : Nat) (st : LoopState) (pend : Option Code) : Loop :=
  { state := st, pending := pend, fn, tmps := #[.slice none 0 0, sv, .pointer (some ⟨Bs, 0, none⟩), undef, .slice none 0 0, undef, sv, undef, undef, undef, undef, undef, undef], params := #[7], assign := apA, body := apB, defers := D }
structure ApAt (w0 : World) (fn : FuncId) (sv : Value) (Bs l D : Nat) (ss : List FlD) (W : World) : Prop where
  box : ∃ v, W.heap[Bs]? = some (.cells #[v] 24 (0, 0)) ∧ W.ownsRow w0.heap.size 41 8 v ss.length (ss.map flC).flatten ∧ (v = .slice none 0 0 ↔ ss = [])
  L : W.heap[l]? = some (.loop (apRec fn sv Bs D .ready none))
  K : W.heap[D]? = some (.deferred (some []))
  below : Below w0.heap.size w0 W
theorem ap_abides (w0 : World) (fn : FuncId) (sv : Value) (Bs l D B : Nat) (hB : w0.heap.size ≤ B) : AbidesFrom B (ApAt w0 fn sv Bs l D) := fun s W W' row h hg hrow => by
  have hrow' : ∀ r, row = some r → ∃ o : Obj, W.heap[r]? = some o ∧ o.isWalk = true := fun r e => (hrow r e).2
  obtain ⟨v, hv, hr, hn⟩ := h.box
  exact ⟨⟨v, (grownBy_keeps hg hrow' hv rfl).trans hv, ownsRow_abides_a hr hg hrow', hn⟩, (grownBy_keeps hg hrow' h.L rfl).trans h.L, (grownBy_keeps hg hrow' h.K rfl).trans h.K,
    h.below.grown hg h.below.size (fun k e => Nat.le_trans hB (hrow k e).1)⟩
theorem cells_new (w : World) (x : FlD) : ∀ j u, (flC x)[j]? = some u → (w.alloc (.cells #[.int .u32 (x.tup.src.toNat : Nat), .int .u32 (x.tup.dst.toNat : Nat), .int .i64 x.tup.proto, .int .i64 x.tup.sport, .int .i64 x.tup.dport, .int .i64 x.back, .int .i64 x.gen, .int .i64 x.seen] 41)).cell? ((⟨w.heap.size, 0, none⟩ : Addr).add j) = some u := by
  intro j u hu
  have := (Blk.new w 41 #[.int .u32 (x.tup.src.toNat : Nat), .int .u32 (x.tup.dst.toNat : Nat), .int .i64 x.tup.proto, .int .i64 x.tup.sport, .int .i64 x.tup.dport, .int .i64 x.back, .int .i64 x.gen, .int .i64 x.seen]).cell j
  rw [show (⟨w.heap.size, 0, none⟩ : Addr).add j = ⟨w.heap.size, j, none⟩ by simp [Addr.add]; omega, this]
  simpa [flC] using hu
theorem flC_len (x : FlD) : (flC x).length = 8 := rfl
set_option maxRecDepth 100000 in
set_option maxHeartbeats 4000000 in
theorem apYield (F : Fence) (m : Nat) (w0 : World) (fn : FuncId) (hfn : F.fn fn) (sv : Value) (Bs l D : Nat) (hBl : Bs ≠ l) (hDl : D ≠ l) (hDB : D ≠ Bs) (h0B : w0.heap.size ≤ Bs) (h0l : w0.heap.size ≤ l)
    (N : Nat) (hN : N ≤ maxLen) (hNb : N * 56 ≤ 140737488355328) (ss : List FlD) (x : FlD) (W : World) (h : ApAt w0 fn sv Bs l D ss W) (hlen : ss.length < N) :
    YieldAt F m Tryz.prog l #[evF x] W fun e W' => e = .returned (.bool true) ∧ ApAt w0 fn sv Bs l D (ss ++ [x]) W' ∧ KeepsWalks W W' := by
  have hne : (24 : TypeId) ≠ 41 := by decide
  obtain ⟨i0, z0, ht, hi, hz0, hz1, hz2, hz3, hz4⟩ := elem_flow.ex
  obtain ⟨v, hv, hrow, _⟩ := h.box
  have hl : l < W.heap.size := (Array.getElem?_eq_some_iff.1 h.L).1
  have hBl0 : Bs < W.heap.size := (Array.getElem?_eq_some_iff.1 hv).1
  have hDl0 : D < W.heap.size := (Array.getElem?_eq_some_iff.1 h.K).1
  refine ⟨fn, #[.slice none 0 0, sv, .pointer (some ⟨Bs, 0, none⟩), undef, .slice none 0 0, undef, sv, evF x, undef, undef, undef, undef, undef], apA, apB, by simpa [apRec] using run_yield (P := Tryz.prog) (args := #[evF x]) h.L rfl, roundIn_of_wpIn hfn ?_⟩
  -- the round's variable in a block of its own
  obtain ⟨Wa, hWa⟩ : ∃ Wa, W.alloc (.cells #[.int .u32 (x.tup.src.toNat : Nat), .int .u32 (x.tup.dst.toNat : Nat), .int .i64 x.tup.proto, .int .i64 x.tup.sport, .int .i64 x.tup.dport, .int .i64 x.back, .int .i64 x.gen, .int .i64 x.seen] 41) = Wa := ⟨_, rfl⟩
  have hka : Kept [] W Wa := by rw [← hWa]; exact (Kept.refl [] W).alloc _
  have hXa : Blk Wa W.heap.size 41 #[.int .u32 (x.tup.src.toNat : Nat), .int .u32 (x.tup.dst.toNat : Nat), .int .i64 x.tup.proto, .int .i64 x.tup.sport, .int .i64 x.tup.dport, .int .i64 x.back, .int .i64 x.gen, .int .i64 x.seen] := by rw [← hWa]; exact Blk.new W _ _
  have hLa : Wa.heap[l]? = some (.loop (apRec fn sv Bs D .ready none)) := (hka.block l hl (by simp)).trans h.L
  have hva : Wa.heap[Bs]? = some (.cells #[v] 24 (0, 0)) := (hka.block Bs hBl0 (by simp)).trans hv
  have hKa : Wa.heap[D]? = some (.deferred (some [])) := (hka.block D hDl0 (by simp)).trans h.K
  have hrowa : Wa.ownsRow w0.heap.size 41 8 v ss.length (ss.map flC).flatten := by rw [← hWa]; exact hrow.alloc _
  have hba : Below w0.heap.size w0 Wa := by rw [← hWa]; exact h.below.alloc h.below.size _
  have hwa : KeepsWalks W Wa := by rw [← hWa]; exact KeepsWalks.alloc _ _
  have hla : l < Wa.heap.size := (Array.getElem?_eq_some_iff.1 hLa).1
  have hbr := run_beginRound (P := Tryz.prog) hLa rfl
  obtain ⟨W2, hW2⟩ : ∃ W2, Wa.putObj l (.loop { apRec fn sv Bs D .ready none with state := .busy }) = W2 := ⟨_, rfl⟩
  rw [hW2] at hbr
  have hg2 : Wa.grownBy W2 (some l) := by rw [← hW2]; exact grownBy_putObj_a _ _ _
  have hk2 : KeepsWalks W W2 := hwa.trans (by rw [← hW2]; exact KeepsWalks.putObj _ hLa rfl)
  have hv2 : W2.heap[Bs]? = some (.cells #[v] 24 (0, 0)) := by rw [← hW2]; exact (World.putObj_heap_other hBl).trans hva
  have hX2 : Blk W2 W.heap.size 41 #[.int .u32 (x.tup.src.toNat : Nat), .int .u32 (x.tup.dst.toNat : Nat), .int .i64 x.tup.proto, .int .i64 x.tup.sport, .int .i64 x.tup.dport, .int .i64 x.back, .int .i64 x.gen, .int .i64 x.seen] := by rw [← hW2]; exact (World.putObj_heap_other (by omega)).trans hXa
  have hK2 : W2.heap[D]? = some (.deferred (some [])) := by rw [← hW2]; exact (World.putObj_heap_other hDl).trans hKa
  have hL2 : W2.heap[l]? = some (.loop { apRec fn sv Bs D .ready none with state := .busy }) := by rw [← hW2]; exact World.putObj_heap_same hla
  have hrow2 : W2.ownsRow w0.heap.size 41 8 v ss.length (ss.map flC).flatten := hrowa.kept hg2 (ownsRow_ne_a hrowa hLa (fun cur e => by first | cases e | exact hne (Obj.cells.inj e).2.1))
  have hb2 : Below w0.heap.size w0 W2 := hba.grown hg2 hba.size (fun k e => by cases e; exact h0l)
  obtain ⟨hc2, hf2⟩ := cell_of_box_a hv2
  have hcx := hX2.cell
  have hBlt : Bs < W2.heap.size := (Array.getElem?_eq_some_iff.1 hv2).1
  have hl2 : l < W2.heap.size := (Array.getElem?_eq_some_iff.1 hL2).1
  have hDlt : D < W2.heap.size := (Array.getElem?_eq_some_iff.1 hK2).1
  have ne_of : ∀ {j : Nat} {o : Obj}, W2.heap[j]? = some o → (∀ cur, o ≠ .cells cur 41 (0, 0)) → some j ≠ v.ownBlock := fun hj hno => by
    rcases ownsRow_ne_a hrow2 hj hno with e | e
    · rw [e]; simp
    · exact fun e' => e e'.symm
  simp only [apA, partsOf, Tryz.f143, evF]
  gi_wp2_with gi_round_op_a
  simp only [apB, partsOf, Tryz.f143]
  gi_wp2_with (first
    | (gi_at_builtin; refine wpListIn_append_own _ rfl _ _ 24 rfl w0.heap.size 41 i0 z0 8 56 ht hi hz0 hz1 hz2 hz3 (by decide) _ _ _ rfl (hrow2.alloc _) ⟨W2.heap.size, 0, none⟩ 1 1 (flC x) rfl rfl (cells_new W2 x) (by simp [Value.oneCell', flC]) (by omega) (by omega) (by have := hb2.size; simp; omega) ?_; intro v' w3 hown' hg3 hnil3
       have hv3 : w3.heap[Bs]? = some (.cells #[v] 24 (0, 0)) := (hg3.block Bs (by simp; omega) (ne_of hv2 (fun cur e => by first | cases e | exact hne (Obj.cells.inj e).2.1))).trans ((Below.heap_alloc _ _ Bs hBlt).trans hv2)
       obtain ⟨hc3, hf3⟩ := cell_of_box_a hv3
       obtain ⟨g', cap', cur', rfl, hbase', hgb', hr1, hr2, hr3, hr4⟩ : ∃ g' cap' cur', v' = .slice (some ⟨g', 0, none⟩) (ss.length + 1) cap' ∧ w0.heap.size ≤ g' ∧ w3.heap[g']? = some (.cells cur' 41 (0, 0)) ∧ ss.length + 1 ≤ cap' ∧ cap' ≤ maxLen ∧ cur'.size = cap' * 8 ∧ cur'.toList.take ((ss.length + 1) * 8) = (ss.map flC).flatten ++ flC x := by
         rcases hown'.2 with ⟨_, h0⟩ | h'
         · exact absurd h0 (by omega)
         · exact h'
       go_frame)
    | gi_round_op_a)
  have hg3' : (W2.alloc (.cells #[.int .u32 (x.tup.src.toNat : Nat), .int .u32 (x.tup.dst.toNat : Nat), .int .i64 x.tup.proto, .int .i64 x.tup.sport, .int .i64 x.tup.dport, .int .i64 x.back, .int .i64 x.gen, .int .i64 x.seen] 41)).grownBy w3 v.ownBlock := hg3
  have hL3 : w3.heap[l]? = some (.loop { apRec fn sv Bs D .ready none with state := .busy }) := (hg3'.block l (by simp; omega) (ne_of hL2 (fun cur e => by first | cases e | exact hne (Obj.cells.inj e).2.1))).trans ((Below.heap_alloc _ _ l hl2).trans hL2)
  have hK3 : w3.heap[D]? = some (.deferred (some [])) := (hg3'.block D (by simp; omega) (ne_of hK2 (fun cur e => by first | cases e | exact hne (Obj.cells.inj e).2.1))).trans ((Below.heap_alloc _ _ D hDlt).trans hK2)
  obtain ⟨w4, hw4⟩ : ∃ w4, w3.setCell ⟨Bs, 0, none⟩ (.slice (some ⟨g', 0, none⟩) (ss.length + 1) cap') = w4 := ⟨_, rfl⟩
  rw [hw4]
  have hg4 : w3.grownBy w4 (some Bs) := by rw [← hw4]; exact grownBy_setCell0_a _ _ _
  have hv4 : w4.heap[Bs]? = some (.cells #[.slice (some ⟨g', 0, none⟩) (ss.length + 1) cap'] 24 (0, 0)) := by rw [← hw4]; exact heap_setCell_box_a _ hv3
  have hL4 : w4.heap[l]? = some (.loop { apRec fn sv Bs D .ready none with state := .busy }) := (hg4.block l (Array.getElem?_eq_some_iff.1 hL3).1 (fun e => hBl (by cases e; rfl))).trans hL3
  have hK4 : w4.heap[D]? = some (.deferred (some [])) := (hg4.block D (Array.getElem?_eq_some_iff.1 hK3).1 (fun e => hDB (by cases e; rfl))).trans hK3
  have hrow4 := hown'.kept hg4 (ownsRow_ne_a hown' hv3 (fun cur e => by first | cases e | exact hne (Obj.cells.inj e).2.1))
  have hl4 : l < w4.heap.size := (Array.getElem?_eq_some_iff.1 hL4).1
  have hb3 : Below w0.heap.size w0 w3 := (hb2.alloc hb2.size _).grown hg3' (by have := hb2.size; simp; omega) (fun k e => (hrow2.lt k e).1)
  have hb4 : Below w0.heap.size w0 w4 := hb3.grown hg4 hb3.size (fun k e => by cases e; exact h0B)
  have hk4 : KeepsWalks W w4 := ((hk2.trans (KeepsWalks.alloc _ _)).trans (KeepsWalks.of_grownBy hg3' (ownsRow_not_walk_a (hrow2.alloc _)))).trans (by rw [← hw4]; exact KeepsWalks.setCell _ _ _)
  clear hw4
  refine ⟨_, _, run_endRound none hL4, rfl, ⟨⟨_, (World.putObj_heap_other hBl).trans hv4, ?_, by simp⟩, World.putObj_heap_same hl4, (World.putObj_heap_other hDl).trans hK4, hb4.grown (grownBy_putObj_a _ _ _) hb4.size (fun k e => by cases e; exact h0l)⟩, hk4.trans (KeepsWalks.putObj _ hL4 rfl)⟩
  have := hrow4.kept (grownBy_putObj_a w4 l (.loop { { apRec fn sv Bs D .ready none with state := .busy } with state := if (none : Option Code).isNone then .ready else .done, pending := none })) (ownsRow_ne_a hrow4 hL4 (fun cur e => by first | cases e | exact hne (Obj.cells.inj e).2.1))
  simpa using this
set_option maxRecDepth 100000 in
set_option maxHeartbeats 4000000 in
theorem appendF_in (F : Fence) (n : Nat) (hF : F.fn 143) (hro : F.round = none) (hn : 2 ≤ n) (g : Nat) (lb : Array Value) (hFg : F.fn g) (eg : ∀ args w, (callFunc g args).run Tryz.prog w = .ok (.enter g args) w)
    (S : List FlD → Prop) (N : Nat) (hN : N ≤ maxLen) (hNb : N * 56 ≤ 140737488355328) (w : World) (hseq : SeqGives F (n - 1) Tryz.prog g lb evF S N w) :
    CallsIn F n Tryz.prog 143 #[.slice none 0 0, .func (.func g) #[] lb] w fun e w' => ∃ (v : Value) (ss : List FlD), e = .returned v ∧ S ss ∧ w'.ownsRow w.heap.size 41 8 v ss.length (ss.map flC).flatten ∧ (v = .slice none 0 0 ↔ ss = []) ∧ Below w.heap.size w w' := by
  have h1 : 1 ≤ n := by omega
  have hne : (24 : TypeId) ≠ 41 := by decide
  refine callsIn_of_wp_marks Tryz.func143 rfl hF ?_ hro
  simp only [Tryz.ntmps143, List.size_toArray, List.length_cons, List.length_nil, Nat.reduceAdd, Nat.reduceSub, Array.replicate_succ, Array.replicate_zero, List.push_toArray, List.append_toArray, List.nil_append, List.cons_append]
  gi_wp2
  refine wpIn_rangeFunc ?_
  intro fn hfn
  rw [hro]
  obtain ⟨W0, hW0⟩ : ∃ W0, w.alloc (.cells #[.slice none 0 0] 24) = W0 := ⟨_, rfl⟩
  have hs0 : W0.heap.size = w.heap.size + 1 := by rw [← hW0]; simp
  have hv0 : W0.heap[w.heap.size]? = some (.cells #[.slice none 0 0] 24 (0, 0)) := by rw [← hW0]; exact World.alloc_heap_new w _
  have hb0 : Below w.heap.size w W0 := by rw [← hW0]; exact (Below.refl _ w).alloc (Nat.le_refl _) _
  rw [hW0]
  obtain ⟨W1, hW1⟩ : ∃ W1, (W0.alloc (.deferred (some []))).alloc (.loop (apRec fn (.func (.func g) #[] lb) w.heap.size W0.heap.size .ready none)) = W1 := ⟨_, rfl⟩
  have hold : ∀ k, k < W0.heap.size → W1.heap[k]? = W0.heap[k]? := fun k hk => by
    rw [← hW1]; exact (Below.heap_alloc _ _ k (by simp; omega)).trans (Below.heap_alloc _ _ k hk)
  have hb1 : Below w.heap.size w W1 := by rw [← hW1]; exact (hb0.alloc hb0.size _).alloc (by have := hb0.size; simp; omega) _
  have hs1 : W1.heap.size = W0.heap.size + 2 := by rw [← hW1]; simp
  have hM : ApAt w fn (.func (.func g) #[] lb) w.heap.size (W0.heap.size + 1) W0.heap.size [] W1 :=
    ⟨⟨_, (hold w.heap.size (by omega)).trans hv0, ⟨rfl, .inl ⟨rfl, rfl⟩⟩, by simp⟩,
     by rw [← hW1]; have := World.alloc_heap_new (W0.alloc (.deferred (some []))) (.loop (apRec fn (.func (.func g) #[] lb) w.heap.size W0.heap.size .ready none)); rwa [World.size_alloc] at this,
     by rw [← hW1]; exact (Below.heap_alloc _ _ _ (by simp)).trans (World.alloc_heap_new W0 _), hb1⟩
  refine ⟨W0.heap.size + 1, [{ target := .collected W0.heap.size, args := #[] }], W1, { target := .fn (.func g) lb, args := #[.func (.yield (W0.heap.size + 1)) #[] #[]] }, W1, g,
    #[.func (.yield (W0.heap.size + 1)) #[] #[]] ++ lb, W1, ?_, ?_, ?_, ?_, fun _ => h1, ?_⟩
  · rw [← hW1]; exact run_enterLoop_outer _ _ _ _ _
  · simp [resolve, go_sem]
  · intro f' hf'; simp [Target.leads] at hf'; subst hf'; exact hFg
  · simp [invoke, go_sem, eg]
  · refine (hseq (W0.heap.size + 1) (ApAt w fn (.func (.func g) #[] lb) w.heap.size (W0.heap.size + 1) W0.heap.size) W1 hb1 (ap_abides _ _ _ _ _ _ _ hb1.size)
      (fun pre x W hJ hl => apYield F (n - 1 - 1) w fn hfn _ w.heap.size (W0.heap.size + 1) W0.heap.size (by omega) (by omega) (by omega) (Nat.le_refl _) (by omega) N hN hNb pre x W hJ hl) hM).mono ?_
    rintro e W2 ⟨⟨v0, rfl⟩, ss, hS, h2⟩
    obtain ⟨v, hv, hrow, hnil⟩ := h2.box
    have hend := run_endLoop (P := Tryz.prog) h2.L (by simp [apRec])
    obtain ⟨W3, hW3⟩ : ∃ W3, W2.putObj (W0.heap.size + 1) (.loop { apRec fn (.func (.func g) #[] lb) w.heap.size W0.heap.size .ready none with state := .exhausted }) = W3 := ⟨_, rfl⟩
    rw [hW3] at hend
    have hg3 : W2.grownBy W3 (some (W0.heap.size + 1)) := by rw [← hW3]; exact grownBy_putObj_a _ _ _
    have hv3 : W3.heap[w.heap.size]? = some (.cells #[v] 24 (0, 0)) := by rw [← hW3]; exact (World.putObj_heap_other (by omega)).trans hv
    have hK3 : W3.heap[W0.heap.size]? = some (.deferred (some [])) := by rw [← hW3]; exact (World.putObj_heap_other (by omega)).trans h2.K
    have hrow3 := hrow.kept hg3 (ownsRow_ne_a hrow h2.L (fun cur e => by first | cases e | exact hne (Obj.cells.inj e).2.1))
    have hb3 : Below w.heap.size w W3 := h2.below.grown hg3 h2.below.size (fun k e => by cases e; omega)
    obtain ⟨hc3, hf3⟩ := cell_of_box_a hv3
    clear hW3
    refine ⟨none, W3, hend, ?_⟩
    gi_wp2
    rw [← hs0]
    refine ⟨by simp, .inl ⟨_, _, rfl, run_takeDeferred hK3, ?_⟩⟩
    exact ⟨_, results_tmp rfl _ _ _, v, ss, rfl, hS, hrow3.kept (grownBy_putObj_a _ _ _) (ownsRow_ne_a hrow3 hK3 (fun cur e => by first | cases e | exact hne (Obj.cells.inj e).2.1)), hnil, hb3.grown (grownBy_putObj_a _ _ _) hb3.size (fun k e => by cases e; omega)⟩
set_option maxHeartbeats 1000000 in
theorem collectF_in (F : Fence) (n : Nat) (h8 : F.fn 129) (h11 : F.fn 143) (hro : F.round = none) (hn : 3 ≤ n) (g : Nat) (lb : Array Value) (hFg : F.fn g) (eg : ∀ args w, (callFunc g args).run Tryz.prog w = .ok (.enter g args) w)
    (S : List FlD → Prop) (N : Nat) (hN : N ≤ maxLen) (hNb : N * 56 ≤ 140737488355328) (w : World) (hseq : SeqGives F (n - 1 - 1) Tryz.prog g lb evF S N w) :
    CallsIn F n Tryz.prog 129 #[.func (.func g) #[] lb] w fun e w' => ∃ (v : Value) (ss : List FlD), e = .returned v ∧ S ss ∧ w'.ownsRow w.heap.size 41 8 v ss.length (ss.map flC).flatten ∧ (v = .slice none 0 0 ↔ ss = []) ∧ Below w.heap.size w w' := by
  have h1 : 1 ≤ n := by omega
  refine callsIn_of_wp Tryz.func129 rfl h8 ?_ hro
  simp only [Tryz.ntmps129, List.size_toArray, List.length_cons, List.length_nil, Nat.reduceAdd, Nat.reduceSub, Array.replicate_succ, Array.replicate_zero, List.push_toArray, List.append_toArray, List.nil_append, List.cons_append]
  gi_wp2_with (gi_at_call 143; refine (appendF_in F (n - 1) h11 hro (by omega) g lb hFg eg S N hN hNb _ hseq).mono ?_; rintro e w' ⟨v, ss, rfl, hS, hrow, hnil, hb⟩)
  go_ret
  exact ⟨v, ss, rfl, hS, hrow, hnil, hb⟩
end
end Go.Proofs.YtkacghjglicjiaaGreat
