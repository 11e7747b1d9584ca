
/-
  A map's keys, sorted; its functions that hand iterators back.
-/
import Derived.Test.YtdabbkkjmmbigaaStJ
namespace Go.Proofs.Ytdabbkkjmmbigaa
open Go.RowKit Go.Maps Go.Sort Go.Shelf Go.MapKept Go.ChangeMaps
set_option linter.unusedVariables false

def inC (n : Int) : List Value := [.int .i64 n]
theorem inC_len (n : Int) : (inC n).length = 1 := rfl
abbrev RowI (w : World) (g cap : Nat) (l : List Int) : Prop := RowAt 3 1 inC w g cap l
/-- a slice of ints of the call's own -/
def IntsV (W w : World) (v : Value) (l : List Int) : Prop := Kept [] W w ∧ ((v = .slice none 0 0 ∧ l = []) ∨ ∃ g cap, v = .slice (some ⟨g, 0, none⟩) l.length cap ∧ RowI w g cap l ∧ W.heap.size ≤ g)
theorem sortsA (m : Nat) : AnyZI.SortsIn Try.prog Try.sortedA_ren Fence.wide m :=
  ⟨fun blk off cap ss W hH hblk hsz => callsIn_wide.2 (AnyM.slices_Sort_int Try.sortA blk off cap ss W hH hblk hsz),
   fun p cap W => callsIn_wide.2 (AnyM.slices_Sort_int_none Try.sortA p cap W)⟩
theorem merge_lt {l : List Int} (h : l.Nodup) : (l.mergeSort fun x y => decide (x ≤ y)).Perm l ∧ (l.mergeSort fun x y => decide (x ≤ y)).Pairwise (· < ·) := by
  have hp : (l.mergeSort fun x y => decide (x ≤ y)).Perm l := List.mergeSort_perm _ _
  refine ⟨hp, ?_⟩
  have hs := List.pairwise_mergeSort (le := fun x y : Int => decide (x ≤ y)) (fun a b c h1 h2 => by simp at *; omega) (fun a b => by simp; omega) l
  have hn : (l.mergeSort fun x y => decide (x ≤ y)).Nodup := (hp.nodup_iff).2 h
  exact (hs.and hn).imp fun {a b} hab => by
    have := hab.1
    have h2 := hab.2
    simp at this
    omega
set_option maxHeartbeats 1600000 in
theorem SortedI_any (w : World) (Bm b : Nat) (m : List (Int × Int)) (hl : m.length ≤ 16) (hBm : w.cell? ⟨Bm, 0, none⟩ = some (.map (some b))) (hlt : Bm < w.heap.size) (hm : MapB ekI evI w b m) :
    Calls Try.prog 30 #[.func (.func 64) #[] #[.pointer (some ⟨Bm, 0, none⟩)]] w fun e w' => ∃ v ks, e = .returned v ∧ ks.Perm (m.map (·.1)) ∧ ks.Pairwise (· < ·) ∧ IntsV w w' v ks := by
  have hseq := keys_gives Fence.wide 2 trivial rfl (by omega) Bm b m w hlt hBm hm
  have cS := AnyZI.sorted_in Try.sortedA Fence.wide 5 trivial trivial trivial trivial rfl (by omega) (sortsA _) (enters_of Try.func63 (by kernel_rfl) rfl) 64 #[.pointer (some ⟨Bm, 0, none⟩)] trivial (enters_of Try.func64 (by kernel_rfl) rfl) _ m.length (by unfold maxLen; omega) (by omega) w hseq
  refine (show Calls Try.prog 30 _ _ _ from (callsIn_wide (n := 5)).1 cS).mono ?_
  rintro e w' ⟨v, ss, rfl, hS, hrow, hnil, hb⟩
  obtain ⟨h1, h2⟩ := merge_lt ((hS.nodup_iff).2 hm.nodup)
  refine ⟨v, _, rfl, h1.trans hS, h2, Kept.of_below hb, ?_⟩
  have ho : Own w' 3 1 v ss.length (((ss.mergeSort fun x y => decide (x ≤ y)).map inC).flatten) := by
    have e : ∀ l : List Int, (l.map inC).flatten = l.map encZ := fun l => by
      induction l with
      | nil => rfl
      | cons a l ih => rw [List.map_cons, List.flatten_cons, ih]; rfl
    rw [e]
    exact ownsRow_base_a hrow (Nat.zero_le _)
  rcases RowAt.of_own inC_len ho (by simp) with ⟨rfl, h3⟩ | ⟨g, cap, rfl, hr⟩
  · exact .inl ⟨rfl, h3⟩
  · exact .inr ⟨g, cap, rfl, hr, (World.ownsRow.lt hrow g rfl).1⟩
theorem Keys_any (w : World) (b : Nat) : Calls Try.prog 31 #[.map (some b)] w fun e w' => e = .returned (.func (.func 64) #[] #[.pointer (some ⟨w.heap.size, 0, none⟩)]) ∧ w' = w.alloc (.cells #[.map (some b)] 65) := by
  go_enter Try.func31, Try.ntmps31
  go_wp2
  go_ret
  exact ⟨rfl, rfl⟩
theorem Values_any (w : World) (b : Nat) : Calls Try.prog 33 #[.map (some b)] w fun e w' => e = .returned (.func (.func 67) #[] #[.pointer (some ⟨w.heap.size, 0, none⟩)]) ∧ w' = w.alloc (.cells #[.map (some b)] 66) := by
  go_enter Try.func33, Try.ntmps33
  go_wp2
  go_ret
  exact ⟨rfl, rfl⟩
end Go.Proofs.Ytdabbkkjmmbigaa
