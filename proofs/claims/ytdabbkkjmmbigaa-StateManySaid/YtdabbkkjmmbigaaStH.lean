
/-
  The iterator over a map's values, inside a fence; over its keys.
-/
import Derived.Test.YtdabbkkjmmbigaaStA
import Derived.Shelf.SlIterI.Sorted
import Derived.Sort.LoopGhostIn
namespace Go.Proofs.Ytdabbkkjmmbigaa
open Go.RowKit Go.Maps Go.Sort Go.Shelf Go.MapKept Go.ChangeMaps
set_option linter.unusedVariables false

theorem Kept.grown_none {w w' : World} (h : Kept [] w w') : w.grownBy w' none := ⟨h.os, h.tape, h.output, h.size, fun k hk _ => h.block k hk (by simp)⟩
theorem Kept.grown_one {w w' : World} {r : Nat} (h : Kept [r] w w') : w.grownBy w' (some r) := ⟨h.os, h.tape, h.output, h.size, fun k hk hne => h.block k hk (by simpa using fun e => hne (by rw [e]))⟩
section
variable {κ ν : Type} {ek : κ → Value} {ev : ν → Value} {P : Program} {F : Fence} {n : Nat} {w w' : World} {b r : Nat} {m left : List (κ × ν)}
theorem Rng.of_walks (h : Rng ek ev w b r m left) (hk : KeepsWalks w w') : Rng ek ev w' b r m left := by
  obtain ⟨⟨es, clock, seen, h1, he, hc, hd, h2, h3⟩, hn⟩ := h
  exact ⟨⟨es, clock, seen, hk.same b _ h1 rfl, he, hc, hd, hk.same r _ h2 rfl, h3⟩, hn⟩
theorem Rng.iter_walk (h : Rng ek ev w b r m left) : ∃ o : Obj, w.heap[r]? = some o ∧ o.isWalk = true := by
  obtain ⟨⟨es, clock, seen, h1, he, hc, hd, h2, h3⟩, hn⟩ := h
  exact ⟨_, h2, rfl⟩
variable {ops : Array Oper} {rest : List Oper} {o : Oper} {a : Act} {Q : Exit → Act → World → Prop}
theorem wpListIn_rangeM (hg : o.guard = none) (mo : Operand) (t : TypeId) (hop : o.op = Op.range t mo) {k e : TypeId} (ht : P.underlying t = some (.map k e))
    (hm : a.eval mo = .map (some b)) (h : MapB ek ev w b m)
    (hK : ∀ w', Rng ek ev w' b w.heap.size m m → Kept [] w w' → w'.heap.size = w.heap.size + 1 → wpListIn F n P ops Q rest (a.put o.dst (.pointer (some ⟨w.heap.size, 0, none⟩))) w') : wpListIn F n P ops Q (o :: rest) a w := by
  refine wpListIn_plain hg fun K' hK' => ?_
  obtain ⟨w', hrun, h1, h2, h3⟩ := h.range ht
  unfold Oper.wpIn
  refine ⟨by simp [Oper.about, hop], ?_⟩
  rw [Oper.semAt_plain F _ _ (by rw [hop]; intro c hc'; cases hc')]
  simp [execOp, hop, hm, hrun, Result.andThen]
  exact hK' _ _ (hK w' h1 h2 h3)
theorem wpListIn_nextM (hg : o.guard = none) (it : Operand) (hop : o.op = Op.next it false) (hit : a.eval it = .pointer (some ⟨r, 0, none⟩)) (h : Rng ek ev w b r m left)
    (hDone : left = [] → wpListIn F n P ops Q rest (a.put o.dst (.tuple #[.bool false])) w)
    (hMore : ∀ (p : κ × ν) (left' : List (κ × ν)) (w' : World), left.Perm (p :: left') → Rng ek ev w' b r m left' → Kept [r] w w' → w'.heap.size = w.heap.size → (Instr.entry (.pointer (some ⟨r, 0, none⟩))).run P w' = .ok (.tuple #[ek p.1, ev p.2]) w' →
      wpListIn F n P ops Q rest (a.put o.dst (.tuple #[.bool true, ek p.1, ev p.2])) w') : wpListIn F n P ops Q (o :: rest) a w := by
  refine wpListIn_plain hg fun K' hK' => ?_
  unfold Oper.wpIn
  refine ⟨by simp [Oper.about, hop], ?_⟩
  rw [Oper.semAt_plain F _ _ (by rw [hop]; intro c hc'; cases hc')]
  rcases h.next (P := P) o.type with ⟨h0, hrun⟩ | ⟨p, left', w', hp, hrun, h1, h2, h3, h4⟩
  · simp [execOp, hop, hit, hrun, Result.andThen]
    exact hK' _ _ (hDone h0)
  · simp [execOp, hop, hit, hrun, Result.andThen]
    exact hK' _ _ (hMore p left' w' hp h1 h2 h3 h4)
end
theorem perm_step {α β : Type} {ss : List β} {left left' : List α} {p : α} {f : α → β} {m : List β} (h : (ss ++ left.map f).Perm m) (hp : left.Perm (p :: left')) : ((ss ++ [f p]) ++ left'.map f).Perm m :=
  (by rw [List.append_assoc]; exact (List.Perm.append_left ss (hp.map f)).symm.trans h)
set_option maxRecDepth 100000 in
set_option maxHeartbeats 1000000 in
theorem values_in (F : Fence) (n : Nat) (hF : F.fn 67) (hro : F.round = none) (hn : 1 ≤ n) (l Bm b : Nat) (m : List (TupD × FlD)) (J : List FlD → World → Prop)
    (hY : ∀ pre x W, J pre W → pre.length < m.length → YieldAt F (n - 1) Try.prog l #[evF x] W fun e W' => e = .returned (.bool true) ∧ J (pre ++ [x]) W' ∧ KeepsWalks W W')
    (W : World) (hJ : AbidesFrom W.heap.size J) (hm : W.cell? ⟨Bm, 0, none⟩ = some (.map (some b))) (hown : MapB ekT evF W b m) (h0 : J [] W) :
    CallsIn F n Try.prog 67 #[.func (.yield l) #[] #[], .pointer (some ⟨Bm, 0, none⟩)] W fun e W' => (∃ v, e = .returned v) ∧ ∃ ss : List FlD, ss.Perm (m.map (·.2)) ∧ J ss W' := by
  have ht := Try.underlying66
  refine callsIn_of_wp Try.func67 rfl hF ?_ hro
  simp only [Try.ntmps67, List.size_toArray, List.length_cons, List.length_nil, Nat.reduceAdd, Nat.reduceSub, Array.replicate_succ, Array.replicate_zero, List.push_toArray, List.append_toArray, List.nil_append, List.cons_append]
  gi_wp2_with (first
    | (gi_at_range; refine wpListIn_rangeM rfl _ 66 rfl ht rfl hown ?_; intro w0 hrg0 hg0 hs0)
    | gi_in)
  go_frame
  gi_loopg [4] m.length (fun gg _ wr => ∃ (left : List (TupD × FlD)) (ss : List FlD), gg = left.length ∧ Rng ekT evF wr b W.heap.size m left ∧ (ss ++ left.map (·.2)).Perm (m.map (·.2)) ∧ J ss wr)
  case atStart => exact ⟨m, [], rfl, hrg0, by simp, hJ [] W w0 none h0 hg0.grown_none (fun r e => by cases e)⟩
  case round =>
    obtain ⟨left, ss, rfl, hrg, hC, hJs⟩ := hrel
    gi_wp2_with (first
      | (gi_at_next; refine wpListIn_nextM rfl _ rfl rfl hrg ?_ ?_)
      | gi_in)
    · intro hl0
      subst hl0
      gi_wp2
      go_end0
      exact ⟨⟨_, rfl⟩, ss, by simpa using hC, hJs⟩
    · intro t f left' w2 hp hrg2 hk2 hs2 hen
      have hlen : ss.length < m.length := by
        have h1 := hC.length_eq
        have h2 := hp.length_eq
        simp at h1 h2
        omega
      have HP := Lib.hid hp
      have HC := Lib.hid (perm_step (f := (·.2)) hC hp)
      have HS := Lib.hid hs2
      have HE : (Instr.entry (.pointer (some ⟨W.heap.size, 0, none⟩))).run Try.prog w2 = .ok (.tuple #[.agg #[.int .u32 (t.src.toNat : Nat), .int .u32 (t.dst.toNat : Nat), .int .i64 t.proto, .int .i64 t.sport, .int .i64 t.dport], .agg #[.int .u32 (f.tup.src.toNat : Nat), .int .u32 (f.tup.dst.toNat : Nat), .int .i64 f.tup.proto, .int .i64 f.tup.sport, .int .i64 f.tup.dport, .int .i64 f.back, .int .i64 f.gen, .int .i64 f.seen]]) w2 := hen
      have hJ2 : J ss w2 := hJ ss wr w2 (some W.heap.size) hJs hk2.grown_one (fun r e => by cases e; exact ⟨Nat.le_refl _, hrg.iter_walk⟩)
      have HK2 := Lib.hid hk2
      clear hp hC hs2 hen hJs hk2
      have hev : evF f = .agg #[.int .u32 (f.tup.src.toNat : Nat), .int .u32 (f.tup.dst.toNat : Nat), .int .i64 f.tup.proto, .int .i64 f.tup.sport, .int .i64 f.tup.dport, .int .i64 f.back, .int .i64 f.gen, .int .i64 f.seen] := rfl
      have hek : ekT t = .agg #[.int .u32 (t.src.toNat : Nat), .int .u32 (t.dst.toNat : Nat), .int .i64 t.proto, .int .i64 t.sport, .int .i64 t.dport] := rfl
      rw [hev, hek]
      have HJ3 := Lib.hid (show J ss (w2.alloc (.cells #[.int .u32 (f.tup.src.toNat : Nat), .int .u32 (f.tup.dst.toNat : Nat), .int .i64 f.tup.proto, .int .i64 f.tup.sport, .int .i64 f.tup.dport, .int .i64 f.back, .int .i64 f.gen, .int .i64 f.seen] 31)) from hJ ss w2 _ none hJ2 ((Kept.refl [] w2).alloc _).grown_none (fun r e => by cases e))
      obtain ⟨fn, tmps, assign, body, hy, hR⟩ := hY ss f _ HJ3.out hlen
      rw [hev] at hy
      have HR := Lib.hid hR
      clear hR hJ2 hev hek
      gi_wp2
      refine HR.out.mono ?_
      rintro e W3 ⟨rfl, hJ3, hk3⟩
      have HJ4 := Lib.hid hJ3
      have hrg3 := (hrg2.kept (S := []) ((Kept.refl [] w2).alloc _) (by simp) (by simp)).of_walks hk3
      clear hJ3 hk3 hrg2 hy
      gi_wp2
      gi_roundg left'.length
      case rel => exact ⟨left', ss ++ [f], rfl, hrg3, HC.out, HJ4.out⟩
      case measure => have := HP.out.length_eq; simp at this; omega
theorem values_gives (F : Fence) (n : Nat) (hF : F.fn 67) (hro : F.round = none) (hn : 1 ≤ n) (Bm b : Nat) (m : List (TupD × FlD)) (w : World) (hBm : Bm < w.heap.size)
    (hm : w.cell? ⟨Bm, 0, none⟩ = some (.map (some b))) (hown : MapB ekT evF w b m) :
    SeqGives F n Try.prog 67 #[.pointer (some ⟨Bm, 0, none⟩)] evF (fun ss => ss.Perm (m.map (·.2))) m.length w := fun l J W hW hJ hY h0 =>
  values_in F n hF hro hn l Bm b m J hY W hJ ((hW.cell (p := ⟨Bm, 0, none⟩) hBm).trans hm) (by
    obtain ⟨⟨es, clock, hb, r⟩, hn⟩ := hown
    exact ⟨⟨es, clock, (hW.block b (Array.getElem?_eq_some_iff.1 hb).1).trans hb, r⟩, hn⟩) h0
set_option maxRecDepth 100000 in
set_option maxHeartbeats 1000000 in
theorem keys_in (F : Fence) (n : Nat) (hF : F.fn 64) (hro : F.round = none) (hn : 1 ≤ n) (l Bm b : Nat) (m : List (Int × Int)) (J : List Int → World → Prop)
    (hY : ∀ pre x W, J pre W → pre.length < m.length → YieldAt F (n - 1) Try.prog l #[encZ x] W fun e W' => e = .returned (.bool true) ∧ J (pre ++ [x]) W' ∧ KeepsWalks W W')
    (W : World) (hJ : AbidesFrom W.heap.size J) (hm : W.cell? ⟨Bm, 0, none⟩ = some (.map (some b))) (hown : MapB ekI evI W b m) (h0 : J [] W) :
    CallsIn F n Try.prog 64 #[.func (.yield l) #[] #[], .pointer (some ⟨Bm, 0, none⟩)] W fun e W' => (∃ v, e = .returned v) ∧ ∃ ss : List Int, ss.Perm (m.map (·.1)) ∧ J ss W' := by
  have ht := Try.underlying65
  refine callsIn_of_wp Try.func64 rfl hF ?_ hro
  simp only [Try.ntmps64, List.size_toArray, List.length_cons, List.length_nil, Nat.reduceAdd, Nat.reduceSub, Array.replicate_succ, Array.replicate_zero, List.push_toArray, List.append_toArray, List.nil_append, List.cons_append]
  gi_wp2_with (first
    | (gi_at_range; refine wpListIn_rangeM rfl _ 65 rfl ht rfl hown ?_; intro w0 hrg0 hg0 hs0)
    | gi_in)
  go_frame
  gi_loopg [3] m.length (fun gg _ wr => ∃ (left : List (Int × Int)) (ss : List Int), gg = left.length ∧ Rng ekI evI wr b W.heap.size m left ∧ (ss ++ left.map (·.1)).Perm (m.map (·.1)) ∧ J ss wr)
  case atStart => exact ⟨m, [], rfl, hrg0, by simp, hJ [] W w0 none h0 hg0.grown_none (fun r e => by cases e)⟩
  case round =>
    obtain ⟨left, ss, rfl, hrg, hC, hJs⟩ := hrel
    gi_wp2_with (first
      | (gi_at_next; refine wpListIn_nextM rfl _ rfl rfl hrg ?_ ?_)
      | gi_in)
    · intro hl0
      subst hl0
      gi_wp2
      go_end0
      exact ⟨⟨_, rfl⟩, ss, by simpa using hC, hJs⟩
    · intro t f left' w2 hp hrg2 hk2 hs2 hen
      have hlen : ss.length < m.length := by
        have h1 := hC.length_eq
        have h2 := hp.length_eq
        simp at h1 h2
        omega
      have HP := Lib.hid hp
      have HC := Lib.hid (perm_step (f := (·.1)) hC hp)
      have HS := Lib.hid hs2
      have HE : (Instr.entry (.pointer (some ⟨W.heap.size, 0, none⟩))).run Try.prog w2 = .ok (.tuple #[.int .i64 t, .int .i64 f]) w2 := hen
      have hJ2 : J ss w2 := hJ ss wr w2 (some W.heap.size) hJs hk2.grown_one (fun r e => by cases e; exact ⟨Nat.le_refl _, hrg.iter_walk⟩)
      have HK2 := Lib.hid hk2
      clear hp hC hs2 hen hJs hk2
      have hev : evI f = .int .i64 f := rfl
      have hek : ekI t = .int .i64 t := rfl
      rw [hev, hek]
      obtain ⟨fn, tmps, assign, body, hy, hR⟩ := hY ss t w2 hJ2 hlen
      have hez : encZ t = .int .i64 t := rfl
      rw [hez] at hy
      have HR := Lib.hid hR
      clear hR hJ2 hev hek hez
      gi_wp2
      refine HR.out.mono ?_
      rintro e W3 ⟨rfl, hJ3, hk3⟩
      have HJ4 := Lib.hid hJ3
      have hrg3 := hrg2.of_walks hk3
      clear hJ3 hk3 hrg2 hy
      gi_wp2
      gi_roundg left'.length
      case rel => exact ⟨left', ss ++ [t], rfl, hrg3, HC.out, HJ4.out⟩
      case measure => have := HP.out.length_eq; simp at this; omega
theorem keys_gives (F : Fence) (n : Nat) (hF : F.fn 64) (hro : F.round = none) (hn : 1 ≤ n) (Bm b : Nat) (m : List (Int × Int)) (w : World) (hBm : Bm < w.heap.size)
    (hm : w.cell? ⟨Bm, 0, none⟩ = some (.map (some b))) (hown : MapB ekI evI w b m) :
    SeqGives F n Try.prog 64 #[.pointer (some ⟨Bm, 0, none⟩)] encZ (fun ss => ss.Perm (m.map (·.1))) m.length w := fun l J W hW hJ hY h0 =>
  keys_in F n hF hro hn l Bm b m J hY W hJ ((hW.cell (p := ⟨Bm, 0, none⟩) hBm).trans hm) (by
    obtain ⟨⟨es, clock, hb, r⟩, hn⟩ := hown
    exact ⟨⟨es, clock, (hW.block b (Array.getElem?_eq_some_iff.1 hb).1).trans hb, r⟩, hn⟩) h0
end Go.Proofs.Ytdabbkkjmmbigaa
