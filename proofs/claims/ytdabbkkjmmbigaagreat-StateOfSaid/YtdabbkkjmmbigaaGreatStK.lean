
/-
  A map's keys, sorted; its functions that hand iterators back.
-/
import Derived.Test.YtdabbkkjmmbigaaGreatStG
import Derived.Test.YtdabbkkjmmbigaaGreatStI
import Derived.Test.YtdabbkkjmmbigaaGreatRow
import Derived.Test.YtdabbkkjmmbigaaGreatShelf
import Derived.Shelf.SlSortCmp.NoneTotal
section
namespace Go.Proofs.YtdabbkkjmmbigaaGreat
open Go.RowKit Go.Maps Go.Sort Go.Shelf Go.MapKept Go.ChangeMaps
set_option linter.unusedVariables false

def FlDec (w : World) (G : List Nat) (cs : List Value) (f : FlD) : Prop := cs = flC f
theorem FlOk : DecOk 8 FlDec where
  len := by rintro w G cs f rfl; rfl
  one := by rintro w G cs f rfl u hu; simp [flC] at hu; rcases hu with rfl | rfl | rfl | rfl | rfl | rfl | rfl | rfl <;> rfl
  kept := by rintro w w' G S cs f h hk hd; exact h
  mono := by rintro w G G' cs f h hg; exact h
abbrev FlV (W w : World) (v : Value) (l : List FlD) : Prop := LV FlDec 43 8 W w v l
abbrev RowF (w : World) (g cap : Nat) (l : List FlD) : Prop := RowAt 43 8 flC w g cap l
theorem RowF.flv {W w : World} {g cap : Nat} {l : List FlD} (h : RowF w g cap l) (hg : W.heap.size ≤ g) (hk : Kept [] W w) : FlV W w (.slice (some ⟨g, 0, none⟩) l.length cap) l :=
  ⟨l.map flC, [], h.own flC_len, fun k hk => by simp [rowOf, Value.ownBlock] at hk; omega, ⟨by simp, fun i cs a h1 h2 => by
    rw [List.getElem?_map, h2] at h1
    injection h1 with h1
    exact h1.symm⟩, by simp, hk⟩
theorem Kept.of_below {w w' : World} (h : Below w.heap.size w w') : Kept [] w w' := ⟨h.os, h.tape, h.output, h.size, fun k hk _ => h.block k hk⟩
theorem less_or {a b : TupD} (h : a ≠ b) : lessT a b = true ∨ lessT b a = true := by
  have := less_one h
  cases h1 : lessT a b <;> cases h2 : lessT b a <;> simp_all
theorem swoF : SWO (ltOf cmpF) where
  irrefl x := by rw [cmpF_lt]; exact less_irr _
  trans x y z h1 h2 := by rw [cmpF_lt] at *; exact less_trans h1 h2
  ntrans x y z h1 h2 := by
    rw [cmpF_lt] at *
    cases h3 : lessT x.tup z.tup
    · rfl
    · by_cases e : x.tup = y.tup
      · rw [e, h2] at h3; cases h3
      · rcases less_or e with h | h
        · rw [h1] at h; cases h
        · rw [less_trans h h3] at h2; cases h2
def SrtF (l : List FlD) : Prop := l.Pairwise fun a b => lessT a.tup b.tup = true
theorem srt_of {n : Nat} {d d' : Array FlD} (hn : n = d.size) (hp : PermIn 0 n d d') (hs : SortedIn (ltOf cmpF) 0 n d') (hd : (d.toList.map (·.tup)).Nodup) : d'.toList.Perm d.toList ∧ SrtF d'.toList := by
  subst hn
  obtain ⟨h1, _, h3⟩ := hp
  have e1 : (d'.extract 0 d.size).toList = d'.toList := by rw [← h1]; simp
  have e2 : (d.extract 0 d.size).toList = d.toList := by simp
  rw [e1, e2] at h3
  refine ⟨h3, ?_⟩
  have hn' : (d'.toList.map (·.tup)).Nodup := ((h3.map (·.tup)).nodup_iff).2 hd
  refine List.pairwise_iff_getElem.2 fun i j hi hj hij => ?_
  have hi' : i < d'.size := by simpa using hi
  have hj' : j < d'.size := by simpa using hj
  have := hs i j (Nat.zero_le _) hij (by omega)
  rw [cmpF_lt, getElem!_pos d' j hj', getElem!_pos d' i hi'] at this
  have hne : d'[i].tup ≠ d'[j].tup := fun e => by
    have a : (d'.toList.map (·.tup))[i]'(by simpa using hi) = (d'.toList.map (·.tup))[j]'(by simpa using hj) := by simpa using e
    exact absurd ((List.getElem_inj hn').1 a) (by omega)
  rcases less_or hne with h | h
  · simpa using h
  · rw [this] at h; cases h
theorem cmpF_lays (blk off size : Nat) (w : World) : CmpLays Tryz.prog 28 #[] flC 8 cmpF blk off size w := fun _ _ _ _ x y => cmpF_any _ x y
set_option maxHeartbeats 1600000 in
theorem SortedF_any (w : World) (Bm b : Nat) (m : List (TupD × FlD)) (hown : ∀ p ∈ m, p.2.tup = p.1) (hl : m.length ≤ 256) (hBm : w.cell? ⟨Bm, 0, none⟩ = some (.map (some b))) (hlt : Bm < w.heap.size) (hm : MapB ekT evF w b m) :
    Calls Tryz.prog 26 #[.func (.func 47) #[] #[.pointer (some ⟨Bm, 0, none⟩)], .func (.func 28) #[] #[]] w fun e w' => ∃ v lf, e = .returned v ∧ lf.Perm (m.map (·.2)) ∧ SrtF lf ∧ FlV w w' v lf := by
  have hnd : ((m.map (·.2)).map (·.tup)).Nodup := by
    rw [List.map_map, show m.map ((·.tup) ∘ (·.2)) = m.map (·.1) from List.map_congr_left fun p hp => hown p hp]
    exact hm.nodup
  have HC := Lib.hid ((callsIn_wide (n := 5)).1 (collectF_in Fence.wide 5 trivial trivial rfl (by omega) 47 #[.pointer (some ⟨Bm, 0, none⟩)] trivial (enters_of Tryz.func47 (by kernel_rfl) rfl) _ m.length (by unfold maxLen; omega) (by omega) w (values_gives Fence.wide 3 trivial rfl (by omega) Bm b m w hlt hBm hm)))
  have HL := Lib.hid hl
  have HD := Lib.hid hnd
  clear hBm hm hown hl hnd
  go_enter Tryz.func26, Tryz.ntmps26
  go_wp2_with (go_at_call 45; refine HC.out.mono ?_; rintro e w1 ⟨v, ss, rfl, hS, hrow, hnil, hb⟩)
  have hlen : ss.length = m.length := by have := hS.length_eq; simpa using this
  have hk1 : Kept [] w w1 := Kept.of_below hb
  have ho : Own w1 43 8 v ss.length (ss.map flC).flatten := ownsRow_base_a hrow (Nat.zero_le _)
  rcases RowAt.of_own flC_len ho rfl with ⟨rfl, rfl⟩ | ⟨g, cap, rfl, hr⟩
  · have HS := Lib.hid hS
    have HK1 := Lib.hid hk1
    clear hS hrow hnil hb hk1 ho hlen
    refine (show Calls Tryz.prog 46 _ _ _ from AnyF.slices_SortFunc_none Tryz.sortF none 0 (.func (.func 28) #[] #[]) w1).mono ?_
    rintro e w2 ⟨rfl, rfl⟩
    go_wp2
    go_ret
    exact ⟨_, [], rfl, HS.out, List.Pairwise.nil, LV.nil HK1.out⟩
  · have hg : w.heap.size ≤ g := (World.ownsRow.lt hrow g rfl).1
    have hd : ((ss.toArray).toList.map (·.tup)).Nodup := ((hS.map (·.tup)).nodup_iff).2 HD.out
    have hsz : ss.toArray.size = ss.length := by simp
    have hcon := AnyQ.slices_SortFunc Tryz.sortF 8 Tryz.isAgg43 Tryz.sizeOf43 flC flC_len (fun x => (show ∀ v ∈ flC x, v.oneCell' = true from FlOk.one (show FlDec w1 [] (flC x) x from rfl))) cmpF swoF 28 #[] g 0 cap ss.toArray w1 (enters_of Tryz.func28 (by kernel_rfl) rfl) (cmpF_lays g 0 _ w1) (RowAt.holds flC_len hr) hr.lt (by have := HL.out; rw [hsz]; omega)
    rw [hsz] at hcon
    have HCON : Hid (Calls Tryz.prog 46 _ _ _) := Lib.hid hcon
    have HS := Lib.hid hS
    have HK1 := Lib.hid hk1
    have HR := Lib.hid hr
    have HDD := Lib.hid hd
    have HG := Lib.hid hg
    clear hS hrow hnil hb hk1 ho hlen hr hcon hd hsz hg
    refine HCON.out.mono ?_
    rintro e w2 ⟨rfl, d', n, os, hp, hs, hw⟩
    obtain ⟨h1, h2⟩ := srt_of (by simp) hp hs HDD.out
    have hd' : d'.size = ss.length := by have := hp.1; simpa using this
    obtain ⟨h3, h4⟩ := RowAt.sorted flC_len HR.out hd' hw
    have hk2 : Kept [] w w2 := HK1.out.trans h4 (fun i hi => .inr (by simp at hi; have := HG.out; omega))
    have HF : Hid (FlV w w2 (.slice (some ⟨g, 0, none⟩) ss.length cap) d'.toList) := Lib.hid (by
      have := RowF.flv h3 HG.out hk2
      rwa [show d'.toList.length = ss.length by simpa using hd'] at this)
    have HP := Lib.hid (h1.trans HS.out)
    have HSS : Hid (SrtF d'.toList) := Lib.hid h2
    clear h1 h2 h3 h4 hk2 hw hp hs
    go_wp2
    go_ret
    exact ⟨_, d'.toList, rfl, HP.out, HSS.out, HF.out⟩
end Go.Proofs.YtdabbkkjmmbigaaGreat
end

section
namespace Go.Proofs.YtdabbkkjmmbigaaGreat
open Go.RowKit Go.Maps Go.Sort Go.Shelf Go.MapKept Go.ChangeMaps
set_option linter.unusedVariables false

def inC (n : Int) : List Value := [.int .i64 n]
theorem inC_len (n : Int) : (inC n).length = 1 := rfl
abbrev RowI (w : World) (g cap : Nat) (l : List Int) : Prop := RowAt 3 1 inC w g cap l
/-- a slice of ints of the call's own -/
def IntsV (W w : World) (v : Value) (l : List Int) : Prop := Kept [] W w ∧ ((v = .slice none 0 0 ∧ l = []) ∨ ∃ g cap, v = .slice (some ⟨g, 0, none⟩) l.length cap ∧ RowI w g cap l ∧ W.heap.size ≤ g)
theorem sortsA (m : Nat) : AnyZI.SortsIn Tryz.prog Tryz.sortedA_ren Fence.wide m :=
  ⟨fun blk off cap ss W hH hblk hsz => callsIn_wide.2 (AnyM.slices_Sort_int Tryz.sortA blk off cap ss W hH hblk hsz),
   fun p cap W => callsIn_wide.2 (AnyM.slices_Sort_int_none Tryz.sortA p cap W)⟩
theorem merge_lt {l : List Int} (h : l.Nodup) : (l.mergeSort fun x y => decide (x ≤ y)).Perm l ∧ (l.mergeSort fun x y => decide (x ≤ y)).Pairwise (· < ·) := by
  have hp : (l.mergeSort fun x y => decide (x ≤ y)).Perm l := List.mergeSort_perm _ _
  refine ⟨hp, ?_⟩
  have hs := List.pairwise_mergeSort (le := fun x y : Int => decide (x ≤ y)) (fun a b c h1 h2 => by simp at *; omega) (fun a b => by simp; omega) l
  have hn : (l.mergeSort fun x y => decide (x ≤ y)).Nodup := (hp.nodup_iff).2 h
  exact (hs.and hn).imp fun {a b} hab => by
    have := hab.1
    have h2 := hab.2
    simp at this
    omega
set_option maxHeartbeats 1600000 in
theorem SortedI_any (w : World) (Bm b : Nat) (m : List (Int × Int)) (hl : m.length ≤ 16) (hBm : w.cell? ⟨Bm, 0, none⟩ = some (.map (some b))) (hlt : Bm < w.heap.size) (hm : MapB ekI evI w b m) :
    Calls Tryz.prog 24 #[.func (.func 44) #[] #[.pointer (some ⟨Bm, 0, none⟩)]] w fun e w' => ∃ v ks, e = .returned v ∧ ks.Perm (m.map (·.1)) ∧ ks.Pairwise (· < ·) ∧ IntsV w w' v ks := by
  have hseq := keys_gives Fence.wide 2 trivial rfl (by omega) Bm b m w hlt hBm hm
  have cS := AnyZI.sorted_in Tryz.sortedA Fence.wide 5 trivial trivial trivial trivial rfl (by omega) (sortsA _) (enters_of Tryz.func43 (by kernel_rfl) rfl) 44 #[.pointer (some ⟨Bm, 0, none⟩)] trivial (enters_of Tryz.func44 (by kernel_rfl) rfl) _ m.length (by unfold maxLen; omega) (by omega) w hseq
  refine (show Calls Tryz.prog 24 _ _ _ from (callsIn_wide (n := 5)).1 cS).mono ?_
  rintro e w' ⟨v, ss, rfl, hS, hrow, hnil, hb⟩
  obtain ⟨h1, h2⟩ := merge_lt ((hS.nodup_iff).2 hm.nodup)
  refine ⟨v, _, rfl, h1.trans hS, h2, Kept.of_below hb, ?_⟩
  have ho : Own w' 3 1 v ss.length (((ss.mergeSort fun x y => decide (x ≤ y)).map inC).flatten) := by
    have e : ∀ l : List Int, (l.map inC).flatten = l.map encZ := fun l => by
      induction l with
      | nil => rfl
      | cons a l ih => rw [List.map_cons, List.flatten_cons, ih]; rfl
    rw [e]
    exact ownsRow_base_a hrow (Nat.zero_le _)
  rcases RowAt.of_own inC_len ho (by simp) with ⟨rfl, h3⟩ | ⟨g, cap, rfl, hr⟩
  · exact .inl ⟨rfl, h3⟩
  · exact .inr ⟨g, cap, rfl, hr, (World.ownsRow.lt hrow g rfl).1⟩
theorem Keys_any (w : World) (b : Nat) : Calls Tryz.prog 25 #[.map (some b)] w fun e w' => e = .returned (.func (.func 44) #[] #[.pointer (some ⟨w.heap.size, 0, none⟩)]) ∧ w' = w.alloc (.cells #[.map (some b)] 60) := by
  go_enter Tryz.func25, Tryz.ntmps25
  go_wp2
  go_ret
  exact ⟨rfl, rfl⟩
theorem Values_any (w : World) (b : Nat) : Calls Tryz.prog 27 #[.map (some b)] w fun e w' => e = .returned (.func (.func 47) #[] #[.pointer (some ⟨w.heap.size, 0, none⟩)]) ∧ w' = w.alloc (.cells #[.map (some b)] 61) := by
  go_enter Tryz.func27, Tryz.ntmps27
  go_wp2
  go_ret
  exact ⟨rfl, rfl⟩
end Go.Proofs.YtdabbkkjmmbigaaGreat
end
