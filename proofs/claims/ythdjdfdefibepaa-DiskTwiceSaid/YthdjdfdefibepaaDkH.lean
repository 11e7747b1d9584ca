
/-
  The disk: Names.
-/
import Derived.Test.YthdjdfdefibepaaDkG
import Derived.Test.YthdjdfdefibepaaItr
import Derived.Test.YthdjdfdefibepaaRow
import Derived.Shelf.SlIter.Sorted
import Derived.Shelf.SortM.SortNone
section
namespace Go.Proofs.Ythdjdfdefibepaa
open Go.RowKit Go.Maps Go.Sort Go.Shelf Go.MapKept Go.ChangeMaps
set_option linter.unusedVariables false

set_option maxRecDepth 100000 in
set_option maxHeartbeats 1000000 in
theorem skeys_in (F : Fence) (n : Nat) (hF : F.fn 60) (hro : F.round = none) (hn : 1 ≤ n) (l Bm b : Nat) (fb : List Nat) (m : List (Bs × Nat)) (J : List Bs → World → Prop)
    (hY : ∀ pre x W, J pre W → pre.length < m.length → YieldAt F (n - 1) Try.prog l #[encStr x] W fun e W' => e = .returned (.bool true) ∧ J (pre ++ [x]) W' ∧ KeepsWalks W W')
    (W : World) (hJ : AbidesFrom W.heap.size J) (hm : W.cell? ⟨Bm, 0, none⟩ = some (.map (some b))) (hown : MapB ekS (evF fb) W b m) (h0 : J [] W) :
    CallsIn F n Try.prog 60 #[.func (.yield l) #[] #[], .pointer (some ⟨Bm, 0, none⟩)] W fun e W' => (∃ v, e = .returned v) ∧ ∃ ss : List Bs, ss.Perm (m.map (·.1)) ∧ J ss W' := by
  have ht := Try.underlying61
  refine callsIn_of_wp Try.func60 rfl hF ?_ hro
  simp only [Try.ntmps60, List.size_toArray, List.length_cons, List.length_nil, Nat.reduceAdd, Nat.reduceSub, Array.replicate_succ, Array.replicate_zero, List.push_toArray, List.append_toArray, List.nil_append, List.cons_append]
  gi_wp2_with (first
    | (gi_at_range; refine wpListIn_rangeM rfl _ 61 rfl ht rfl hown ?_; intro w0 hrg0 hg0 hs0)
    | gi_in)
  go_frame
  gi_loopg [3] m.length (fun gg _ wr => ∃ (left : List (Bs × Nat)) (ss : List Bs), gg = left.length ∧ Rng ekS (evF fb) wr b W.heap.size m left ∧ (ss ++ left.map (·.1)).Perm (m.map (·.1)) ∧ J ss wr)
  case atStart => exact ⟨m, [], rfl, hrg0, by simp, hJ [] W w0 none h0 hg0.grown_none (fun r e => by cases e)⟩
  case round =>
    obtain ⟨left, ss, rfl, hrg, hC, hJs⟩ := hrel
    gi_wp2_with (first
      | (gi_at_next; refine wpListIn_nextM rfl _ rfl rfl hrg ?_ ?_)
      | gi_in)
    · intro hl0
      subst hl0
      gi_wp2
      go_end0
      exact ⟨⟨_, rfl⟩, ss, by simpa using hC, hJs⟩
    · intro t f left' w2 hp hrg2 hk2 hs2 hen
      have hlen : ss.length < m.length := by
        have h1 := hC.length_eq
        have h2 := hp.length_eq
        simp at h1 h2
        omega
      have HP := Lib.hid hp
      have HC := Lib.hid (perm_step (f := (·.1)) hC hp)
      have HS := Lib.hid hs2
      have HE : (Instr.entry (.pointer (some ⟨W.heap.size, 0, none⟩))).run Try.prog w2 = .ok (.tuple #[.string (strOf t), .pointer (some ⟨fbA fb f, 0, none⟩)]) w2 := hen
      have hJ2 : J ss w2 := hJ ss wr w2 (some W.heap.size) hJs hk2.grown_one (fun r e => by cases e; exact ⟨Nat.le_refl _, hrg.iter_walk⟩)
      have HK2 := Lib.hid hk2
      clear hp hC hs2 hen hJs hk2
      have hev : evF fb f = .pointer (some ⟨fbA fb f, 0, none⟩) := rfl
      have hek : ekS t = .string (strOf t) := rfl
      rw [hev, hek]
      obtain ⟨fn, tmps, assign, body, hy, hR⟩ := hY ss t w2 hJ2 hlen
      have hez : encStr t = .string (strOf t) := rfl
      rw [hez] at hy
      have HR := Lib.hid hR
      clear hR hJ2 hev hek hez
      gi_wp2
      refine HR.out.mono ?_
      rintro e W3 ⟨rfl, hJ3, hk3⟩
      have HJ4 := Lib.hid hJ3
      have hrg3 := hrg2.of_walks hk3
      clear hJ3 hk3 hrg2 hy
      gi_wp2
      gi_roundg left'.length
      case rel => exact ⟨left', ss ++ [t], rfl, hrg3, HC.out, HJ4.out⟩
      case measure => have := HP.out.length_eq; simp at this; omega
theorem skeys_gives (F : Fence) (n : Nat) (hF : F.fn 60) (hro : F.round = none) (hn : 1 ≤ n) (Bm b : Nat) (fb : List Nat) (m : List (Bs × Nat)) (w : World) (hBm : Bm < w.heap.size)
    (hm : w.cell? ⟨Bm, 0, none⟩ = some (.map (some b))) (hown : MapB ekS (evF fb) w b m) :
    SeqGives F n Try.prog 60 #[.pointer (some ⟨Bm, 0, none⟩)] encStr (fun ss => ss.Perm (m.map (·.1))) m.length w := fun l J W hW hJ hY h0 =>
  skeys_in F n hF hro hn l Bm b fb m J hY W hJ ((hW.cell (p := ⟨Bm, 0, none⟩) hBm).trans hm) (by
    obtain ⟨⟨es, clock, hb, r⟩, hn⟩ := hown
    exact ⟨⟨es, clock, (hW.block b (Array.getElem?_eq_some_iff.1 hb).1).trans hb, r⟩, hn⟩) h0
def stC (s : Bs) : List Value := [.string (strOf s)]
theorem stC_len (s : Bs) : (stC s).length = 1 := rfl
abbrev RowS (w : World) (g cap : Nat) (l : List Bs) : Prop := RowAt 9 1 stC w g cap l
/-- a slice of strings of the call's own -/
def StrsV (W w : World) (v : Value) (l : List Bs) : Prop := Kept [] W w ∧ ((v = .slice none 0 0 ∧ l = []) ∨ ∃ g cap, v = .slice (some ⟨g, 0, none⟩) l.length cap ∧ RowS w g cap l ∧ W.heap.size ≤ g)
theorem Kept.of_below {w w' : World} (h : Below w.heap.size w w') : Kept [] w w' := ⟨h.os, h.tape, h.output, h.size, fun k hk _ => h.block k hk⟩
theorem sortsS (m : Nat) : AnyZ.SortsIn Try.prog Try.sortedS_ren Fence.wide m :=
  ⟨fun blk off cap ss W hH hblk hsz => callsIn_wide.2 (AnyM.slices_Sort_string Try.sortS blk off cap ss W hH hblk hsz),
   fun p cap W => callsIn_wide.2 (AnyM.slices_Sort_string_none Try.sortS p cap W)⟩
/-- names in order -/
def srtN (l : List Bs) : List Bs := l.mergeSort fun x y => decide (x ≤ y)
theorem str_trans {a b c : Bs} (h1 : a ≤ b) (h2 : b ≤ c) : a ≤ c := List.le_trans h1 h2
theorem str_total (a b : Bs) : a ≤ b ∨ b ≤ a := List.le_total a b
theorem srtN_perm (l : List Bs) : (srtN l).Perm l := List.mergeSort_perm _ _
theorem srtN_sorted (l : List Bs) : (srtN l).Pairwise (· ≤ ·) := by
  have hs := List.pairwise_mergeSort (le := fun x y : Bs => decide (x ≤ y)) (fun a b c h1 h2 => by simp at *; exact str_trans h1 h2) (fun a b => by simp; exact str_total a b) l
  exact hs.imp (by simp)
/-- one row in order alone -/
theorem srt_one {l l' : List Bs} (hp : l.Perm l') (h1 : l.Pairwise (· ≤ ·)) (h2 : l'.Pairwise (· ≤ ·)) : l = l' :=
  List.Perm.eq_of_pairwise (fun a b _ _ h3 h4 => List.le_antisymm h3 h4) h1 h2 hp
theorem srtN_eq {l l' : List Bs} (hp : l.Perm l') : srtN l = srtN l' := srt_one (((srtN_perm l).trans hp).trans (srtN_perm l').symm) (srtN_sorted l) (srtN_sorted l')
set_option maxHeartbeats 1600000 in
theorem SortedS_any (w : World) (Bm b : Nat) (fb : List Nat) (m : List (Bs × Nat)) (hl : m.length ≤ 1000000) (hBm : w.cell? ⟨Bm, 0, none⟩ = some (.map (some b))) (hlt : Bm < w.heap.size) (hm : MapB ekS (evF fb) w b m) :
    Calls Try.prog 36 #[.func (.func 60) #[] #[.pointer (some ⟨Bm, 0, none⟩)]] w fun e w' => ∃ v, e = .returned v ∧ StrsV w w' v (srtN (m.map (·.1))) := by
  have hseq := skeys_gives Fence.wide 2 trivial rfl (by omega) Bm b fb m w hlt hBm hm
  have cS := AnyZ.sorted_in Try.sortedS Fence.wide 5 trivial trivial trivial trivial rfl (by omega) (sortsS _) (enters_of Try.func59 (by kernel_rfl) rfl) 60 #[.pointer (some ⟨Bm, 0, none⟩)] trivial (enters_of Try.func60 (by kernel_rfl) rfl) _ m.length (by unfold maxLen; omega) (by omega) w hseq
  refine (show Calls Try.prog 36 _ _ _ from (callsIn_wide (n := 5)).1 cS).mono ?_
  rintro e w' ⟨v, ss, rfl, hS, hrow, hnil, hb⟩
  have hq : srtN ss = srtN (m.map (·.1)) := srtN_eq hS
  refine ⟨v, rfl, Kept.of_below hb, ?_⟩
  rw [← hq]
  have ho : Own w' 9 1 v ss.length (((srtN ss).map stC).flatten) := by
    have e : ∀ l : List Bs, (l.map stC).flatten = l.map encStr := fun l => by
      induction l with
      | nil => rfl
      | cons a l ih => rw [List.map_cons, List.flatten_cons, ih]; rfl
    rw [e]
    exact ownsRow_base_a hrow (Nat.zero_le _)
  rcases RowAt.of_own stC_len ho (by rw [(srtN_perm ss).length_eq]) with ⟨rfl, h3⟩ | ⟨g, cap, rfl, hr⟩
  · exact .inl ⟨rfl, h3⟩
  · exact .inr ⟨g, cap, rfl, hr, (World.ownsRow.lt hrow g rfl).1⟩
theorem KeysS_any (w : World) (b : Nat) : Calls Try.prog 37 #[.map (some b)] w fun e w' => e = .returned (.func (.func 60) #[] #[.pointer (some ⟨w.heap.size, 0, none⟩)]) ∧ w' = w.alloc (.cells #[.map (some b)] 61) := by
  go_enter Try.func37, Try.ntmps37
  go_wp2
  go_ret
  exact ⟨rfl, rfl⟩
end Go.Proofs.Ythdjdfdefibepaa
end
section
namespace Go.Proofs.Ythdjdfdefibepaa
open Go.RowKit Go.ChangeShapes Go.WideShapes Go.ChangeAt Go.Deep Go.MapKept
set_option linter.unusedVariables false

def namesD (D : DkD) : List Bs := srtN (D.now.map (·.1))
theorem Names_any {w : World} {G : List Nat} {p : Nat} {fb : List Nat} {D : DkD} {bn bs : Nat} {A : Option Addr} {m c : Nat} (h : DkX w G p fb D bn bs A m c) (hl : D.now.length ≤ 1000000) :
    Calls Try.prog 15 #[.pointer (some ⟨p, 0, none⟩)] w fun e w' => ∃ v, e = .returned v ∧ StrsV w w' v (namesD D) := by
  have hc := h.blk.cell
  have hp := h.blk.lt
  have KS := Lib.hid (KeysS_any w bn)
  have BA := Blk.new w 61 #[.map (some bn)]
  have SO := Lib.hid (SortedS_any (w.alloc (.cells #[.map (some bn)] 61)) w.heap.size bn fb D.now hl (BA.cell 0) BA.lt (h.now.alloc _))
  clear h BA
  go_enter Try.func15, Try.ntmps15
  go_wp2_with (first
    | (go_at_call 37
       refine KS.out.mono ?_
       rintro e w1 ⟨rfl, rfl⟩)
    | (go_at_call 36
       refine SO.out.mono ?_
       rintro e w2 ⟨v, rfl, hs⟩
       have S2 := Lib.hid hs
       clear hs))
  go_ret
  exact ⟨v, rfl, ((Kept.refl [] w).alloc _).trans S2.out.1 (by simp), S2.out.2.imp id (fun ⟨g, cap, h1, h2, h3⟩ => ⟨g, cap, h1, h2, by simp at h3; omega⟩)⟩
end Go.Proofs.Ythdjdfdefibepaa
end
