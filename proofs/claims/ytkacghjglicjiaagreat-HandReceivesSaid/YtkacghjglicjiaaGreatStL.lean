/-
  A state's view.
-/
import Derived.Shelf.SlSortCmp.NoneTotal
import Derived.Test.YtkacghjglicjiaaGreatRow
import Derived.Test.YtkacghjglicjiaaGreatStG
import Derived.Test.YtkacghjglicjiaaGreatStI
import Derived.Test.YtkacghjglicjiaaGreatShelf
import Derived.Deep.DeepCutAuto
import Derived.BigQuiet
import Derived.Deep.RegionWith
import Derived.Laws.OwnMore
import Derived.Deep.CondSized
import Derived.Test.YtkacghjglicjiaaGreatStD
namespace Go.Proofs.YtkacghjglicjiaaGreat
set_option linter.unusedVariables false
section
open Go.RowKit Go.Maps Go.Sort Go.Shelf Go.MapKept Go.ChangeMaps
def FlDec (w : World) (G : List Nat) (cs : List Value) (f : FlD) : Prop := cs = flC f
theorem FlOk : DecOk 8 FlDec where
  len := by rintro w G cs f rfl; rfl
  one := by rintro w G cs f rfl u hu; simp [flC] at hu; rcases hu with rfl | rfl | rfl | rfl | rfl | rfl | rfl | rfl <;> rfl
  kept := by rintro w w' G S cs f h hk hd; exact h
  mono := by rintro w G G' cs f h hg; exact h
abbrev FlV (W w : World) (v : Value) (l : List FlD) : Prop := LV FlDec 41 8 W w v l
abbrev RowF (w : World) (g cap : Nat) (l : List FlD) : Prop := RowAt 41 8 flC w g cap l
theorem RowF.flv {W w : World} {g cap : Nat} {l : List FlD} (h : RowF w g cap l) (hg : W.heap.size ≤ g) (hk : Kept [] W w) : FlV W w (.slice (some ⟨g, 0, none⟩) l.length cap) l :=
  ⟨l.map flC, [], h.own flC_len, fun k hk => by simp [rowOf, Value.ownBlock] at hk; omega, ⟨by simp, fun i cs a h1 h2 => by
    rw [List.getElem?_map, h2] at h1
    injection h1 with h1
    exact h1.symm⟩, by simp, hk⟩
theorem Kept.of_below {w w' : World} (h : Below w.heap.size w w') : Kept [] w w' := ⟨h.os, h.tape, h.output, h.size, fun k hk _ => h.block k hk⟩
theorem less_or {a b : TupD} (h : a ≠ b) : lessT a b = true ∨ lessT b a = true := by
  have := less_one h
  cases h1 : lessT a b <;> cases h2 : lessT b a <;> simp_all
theorem swoF : SWO (ltOf cmpF) where
  irrefl x := by rw [cmpF_lt]; exact less_irr _
  trans x y z h1 h2 := by rw [cmpF_lt] at *; exact less_trans h1 h2
  ntrans x y z h1 h2 := by
    rw [cmpF_lt] at *
    cases h3 : lessT x.tup z.tup
    · rfl
    · by_cases e : x.tup = y.tup
      · rw [e, h2] at h3; cases h3
      · rcases less_or e with h | h
        · rw [h1] at h; cases h
        · rw [less_trans h h3] at h2; cases h2
def SrtF (l : List FlD) : Prop := l.Pairwise fun a b => lessT a.tup b.tup = true
theorem srt_of {n : Nat} {d d' : Array FlD} (hn : n = d.size) (hp : PermIn 0 n d d') (hs : SortedIn (ltOf cmpF) 0 n d') (hd : (d.toList.map (·.tup)).Nodup) : d'.toList.Perm d.toList ∧ SrtF d'.toList := by
  subst hn
  obtain ⟨h1, _, h3⟩ := hp
  have e1 : (d'.extract 0 d.size).toList = d'.toList := by rw [← h1]; simp
  have e2 : (d.extract 0 d.size).toList = d.toList := by simp
  rw [e1, e2] at h3
  refine ⟨h3, ?_⟩
  have hn' : (d'.toList.map (·.tup)).Nodup := ((h3.map (·.tup)).nodup_iff).2 hd
  refine List.pairwise_iff_getElem.2 fun i j hi hj hij => ?_
  have hi' : i < d'.size := by simpa using hi
  have hj' : j < d'.size := by simpa using hj
  have := hs i j (Nat.zero_le _) hij (by omega)
  rw [cmpF_lt, getElem!_pos d' j hj', getElem!_pos d' i hi'] at this
  have hne : d'[i].tup ≠ d'[j].tup := fun e => by
    have a : (d'.toList.map (·.tup))[i]'(by simpa using hi) = (d'.toList.map (·.tup))[j]'(by simpa using hj) := by simpa using e
    exact absurd ((List.getElem_inj hn').1 a) (by omega)
  rcases less_or hne with h | h
  · simpa using h
  · rw [this] at h; cases h
theorem cmpF_lays (blk off size : Nat) (w : World) : CmpLays Tryz.prog 99 #[] flC 8 cmpF blk off size w := fun _ _ _ _ x y => cmpF_any _ x y
set_option maxHeartbeats 1600000 in
theorem SortedF_any (w : World) (Bm b : Nat) (m : List (TupD × FlD)) (hown : ∀ p ∈ m, p.2.tup = p.1) (hl : m.length ≤ 256) (hBm : w.cell? ⟨Bm, 0, none⟩ = some (.map (some b))) (hlt : Bm < w.heap.size) (hm : MapB ekT evF w b m) :
    Calls Tryz.prog 97 #[.func (.func 131) #[] #[.pointer (some ⟨Bm, 0, none⟩)], .func (.func 99) #[] #[]] w fun e w' => ∃ v lf, e = .returned v ∧ lf.Perm (m.map (·.2)) ∧ SrtF lf ∧ FlV w w' v lf := by
  have hnd : ((m.map (·.2)).map (·.tup)).Nodup := by
    rw [List.map_map, show m.map ((·.tup) ∘ (·.2)) = m.map (·.1) from List.map_congr_left fun p hp => hown p hp]
    exact hm.nodup
  have HC := Lib.hid ((callsIn_wide (n := 5)).1 (collectF_in Fence.wide 5 trivial trivial rfl (by omega) 131 #[.pointer (some ⟨Bm, 0, none⟩)] trivial (enters_of Tryz.func131 (by kernel_rfl) rfl) _ m.length (by unfold maxLen; omega) (by omega) w (values_gives Fence.wide 3 trivial rfl (by omega) Bm b m w hlt hBm hm)))
  have HL := Lib.hid hl
  have HD := Lib.hid hnd
  clear hBm hm hown hl hnd
  go_enter Tryz.func97, Tryz.ntmps97
  go_wp2_with (go_at_call 129; refine HC.out.mono ?_; rintro e w1 ⟨v, ss, rfl, hS, hrow, hnil, hb⟩)
  have hlen : ss.length = m.length := by have := hS.length_eq; simpa using this
  have hk1 : Kept [] w w1 := Kept.of_below hb
  have ho : Own w1 41 8 v ss.length (ss.map flC).flatten := ownsRow_base_a hrow (Nat.zero_le _)
  rcases RowAt.of_own flC_len ho rfl with ⟨rfl, rfl⟩ | ⟨g, cap, rfl, hr⟩
  · have HS := Lib.hid hS
    have HK1 := Lib.hid hk1
    clear hS hrow hnil hb hk1 ho hlen
    refine (show Calls Tryz.prog 130 _ _ _ from AnyF.slices_SortFunc_none Tryz.sortF none 0 (.func (.func 99) #[] #[]) w1).mono ?_
    rintro e w2 ⟨rfl, rfl⟩
    go_wp2
    go_ret
    exact ⟨_, [], rfl, HS.out, List.Pairwise.nil, LV.nil HK1.out⟩
  · have hg : w.heap.size ≤ g := (World.ownsRow.lt hrow g rfl).1
    have hd : ((ss.toArray).toList.map (·.tup)).Nodup := ((hS.map (·.tup)).nodup_iff).2 HD.out
    have hsz : ss.toArray.size = ss.length := by simp
    have hcon := AnyQ.slices_SortFunc Tryz.sortF 8 Tryz.isAgg41 Tryz.sizeOf41 flC flC_len (fun x => (show ∀ v ∈ flC x, v.oneCell' = true from FlOk.one (show FlDec w1 [] (flC x) x from rfl))) cmpF swoF 99 #[] g 0 cap ss.toArray w1 (enters_of Tryz.func99 (by kernel_rfl) rfl) (cmpF_lays g 0 _ w1) (RowAt.holds flC_len hr) hr.lt (by have := HL.out; rw [hsz]; omega)
    rw [hsz] at hcon
    have HCON : Hid (Calls Tryz.prog 130 _ _ _) := Lib.hid hcon
    have HS := Lib.hid hS
    have HK1 := Lib.hid hk1
    have HR := Lib.hid hr
    have HDD := Lib.hid hd
    have HG := Lib.hid hg
    clear hS hrow hnil hb hk1 ho hlen hr hcon hd hsz hg
    refine HCON.out.mono ?_
    rintro e w2 ⟨rfl, d', n, os, hp, hs, hw⟩
    obtain ⟨h1, h2⟩ := srt_of (by simp) hp hs HDD.out
    have hd' : d'.size = ss.length := by have := hp.1; simpa using this
    obtain ⟨h3, h4⟩ := RowAt.sorted flC_len HR.out hd' hw
    have hk2 : Kept [] w w2 := HK1.out.trans h4 (fun i hi => .inr (by simp at hi; have := HG.out; omega))
    have HF : Hid (FlV w w2 (.slice (some ⟨g, 0, none⟩) ss.length cap) d'.toList) := Lib.hid (by
      have := RowF.flv h3 HG.out hk2
      rwa [show d'.toList.length = ss.length by simpa using hd'] at this)
    have HP := Lib.hid (h1.trans HS.out)
    have HSS : Hid (SrtF d'.toList) := Lib.hid h2
    clear h1 h2 h3 h4 hk2 hw hp hs
    go_wp2
    go_ret
    exact ⟨_, d'.toList, rfl, HP.out, HSS.out, HF.out⟩
end
section
open Go.RowKit Go.Maps Go.Sort Go.Shelf Go.MapKept Go.ChangeMaps
def inC (n : Int) : List Value := [.int .i64 n]
theorem inC_len (n : Int) : (inC n).length = 1 := rfl
abbrev RowI (w : World) (g cap : Nat) (l : List Int) : Prop := RowAt 3 1 inC w g cap l
def IntsV (W w : World) (v : Value) (l : List Int) : Prop := Kept [] W w ∧ ((v = .slice none 0 0 ∧ l = []) ∨ ∃ g cap, v = .slice (some ⟨g, 0, none⟩) l.length cap ∧ RowI w g cap l ∧ W.heap.size ≤ g)
theorem sortsA (m : Nat) : AnyZI.SortsIn Tryz.prog Tryz.sortedA_ren Fence.wide m :=
  ⟨fun blk off cap ss W hH hblk hsz => callsIn_wide.2 (AnyM.slices_Sort_int Tryz.sortA blk off cap ss W hH hblk hsz),
   fun p cap W => callsIn_wide.2 (AnyM.slices_Sort_int_none Tryz.sortA p cap W)⟩
theorem merge_lt {l : List Int} (h : l.Nodup) : (l.mergeSort fun x y => decide (x ≤ y)).Perm l ∧ (l.mergeSort fun x y => decide (x ≤ y)).Pairwise (· < ·) := by
  have hp : (l.mergeSort fun x y => decide (x ≤ y)).Perm l := List.mergeSort_perm _ _
  refine ⟨hp, ?_⟩
  have hs := List.pairwise_mergeSort (le := fun x y : Int => decide (x ≤ y)) (fun a b c h1 h2 => by simp at *; omega) (fun a b => by simp; omega) l
  have hn : (l.mergeSort fun x y => decide (x ≤ y)).Nodup := (hp.nodup_iff).2 h
  exact (hs.and hn).imp fun {a b} hab => by
    have := hab.1
    have h2 := hab.2
    simp at this
    omega
set_option maxHeartbeats 1600000 in
theorem SortedI_any (w : World) (Bm b : Nat) (m : List (Int × Int)) (hl : m.length ≤ 16) (hBm : w.cell? ⟨Bm, 0, none⟩ = some (.map (some b))) (hlt : Bm < w.heap.size) (hm : MapB ekI evI w b m) :
    Calls Tryz.prog 95 #[.func (.func 128) #[] #[.pointer (some ⟨Bm, 0, none⟩)]] w fun e w' => ∃ v ks, e = .returned v ∧ ks.Perm (m.map (·.1)) ∧ ks.Pairwise (· < ·) ∧ IntsV w w' v ks := by
  have hseq := keys_gives Fence.wide 2 trivial rfl (by omega) Bm b m w hlt hBm hm
  have cS := AnyZI.sorted_in Tryz.sortedA Fence.wide 5 trivial trivial trivial trivial rfl (by omega) (sortsA _) (enters_of Tryz.func127 (by kernel_rfl) rfl) 128 #[.pointer (some ⟨Bm, 0, none⟩)] trivial (enters_of Tryz.func128 (by kernel_rfl) rfl) _ m.length (by unfold maxLen; omega) (by omega) w hseq
  refine (show Calls Tryz.prog 95 _ _ _ from (callsIn_wide (n := 5)).1 cS).mono ?_
  rintro e w' ⟨v, ss, rfl, hS, hrow, hnil, hb⟩
  obtain ⟨h1, h2⟩ := merge_lt ((hS.nodup_iff).2 hm.nodup)
  refine ⟨v, _, rfl, h1.trans hS, h2, Kept.of_below hb, ?_⟩
  have ho : Own w' 3 1 v ss.length (((ss.mergeSort fun x y => decide (x ≤ y)).map inC).flatten) := by
    have e : ∀ l : List Int, (l.map inC).flatten = l.map encZ := fun l => by
      induction l with
      | nil => rfl
      | cons a l ih => rw [List.map_cons, List.flatten_cons, ih]; rfl
    rw [e]
    exact ownsRow_base_a hrow (Nat.zero_le _)
  rcases RowAt.of_own inC_len ho (by simp) with ⟨rfl, h3⟩ | ⟨g, cap, rfl, hr⟩
  · exact .inl ⟨rfl, h3⟩
  · exact .inr ⟨g, cap, rfl, hr, (World.ownsRow.lt hrow g rfl).1⟩
theorem Keys_any (w : World) (b : Nat) : Calls Tryz.prog 96 #[.map (some b)] w fun e w' => e = .returned (.func (.func 128) #[] #[.pointer (some ⟨w.heap.size, 0, none⟩)]) ∧ w' = w.alloc (.cells #[.map (some b)] 141) := by
  go_enter Tryz.func96, Tryz.ntmps96
  go_wp2
  go_ret
  exact ⟨rfl, rfl⟩
theorem Values_any (w : World) (b : Nat) : Calls Tryz.prog 98 #[.map (some b)] w fun e w' => e = .returned (.func (.func 131) #[] #[.pointer (some ⟨w.heap.size, 0, none⟩)]) ∧ w' = w.alloc (.cells #[.map (some b)] 142) := by
  go_enter Tryz.func98, Tryz.ntmps98
  go_wp2
  go_ret
  exact ⟨rfl, rfl⟩
end
section
open Go.RowKit Go.ChangeShapes Go.WideShapes Go.ChangeAt Go.Deep Go.MapKept
def drC (d : Int × Int) : List Value := [.int .i64 d.1, .int .i64 d.2]
def DrDec (w : World) (G : List Nat) (cs : List Value) (d : Int × Int) : Prop := cs = drC d
theorem DrOk : DecOk 2 DrDec where
  len := by rintro w G cs f rfl; rfl
  one := by rintro w G cs f rfl u hu; simp [drC] at hu; rcases hu with rfl | rfl <;> rfl
  kept := by rintro w w' G S cs f h hk hd; exact h
  mono := by rintro w G G' cs f h hg; exact h
abbrev DrV (W w : World) (v : Value) (l : List (Int × Int)) : Prop := LV DrDec 118 2 W w v l
theorem info_drain : (Tryz.prog.info? 118).map (fun i => (i.zero, i.size, i.bytes)) = some (some (.agg #[.int .i64 0, .int .i64 0]), 2, 16) := by kernel_rfl
theorem elem_drain : Elem Tryz.prog 23 118 2 16 := Elem.mk' Tryz.underlying23 info_drain rfl (by omega)
theorem step_dr {ops : Array Oper} {o : Oper} {a : Act} {K : Act → World → Prop} {Q : Exit → Act → World → Prop} {E0 : Prop} {w0 : World} (hgd : o.guard = none) (s x : Operand)
    (ho : o.op = .call { callee := .builtin .append, args := #[s, x], argTypes := #[23, 23] }) {W : World} {sl : Value} {l : List (Int × Int)} {d : Int × Int}
    {g : Nat} (hs : a.eval s = sl) (hN : DrV W w0 sl l) (hx : a.eval x = .slice (some ⟨g, 0, none⟩) 1 1) (hb : Blk w0 g 118 #[.int .i64 d.1, .int .i64 d.2]) (hl : l.length ≤ 100000)
    (h : ∀ A m c w', DrV W w' (.slice A m c) (l ++ [d]) → Kept (rowOf sl) w0 w' → (∀ k ∈ rowOf sl, W.heap.size ≤ k ∧ k < w0.heap.size) → K (a.put o.dst (.slice A m c)) w') : if Region.wanted o (yielded ops a.tmps) = true then Oper.wp Tryz.prog o a w0 K Q else E0 := by
  obtain ⟨css, G, h1⟩ := hN
  have hD : Decs DrDec w0 [] [drC d] [d] := ⟨rfl, fun i cs b h1 h2 => by
    cases i with
    | zero => simp at h1 h2; rw [← h1, ← h2]; rfl
    | succ i => simp at h1⟩
  have hrd : Rd w0 (some ⟨g, 0, none⟩) ([drC d].flatten) := fun hne => ⟨g, 0, rfl, fun j u hu => by
    rw [Nat.zero_add, hb.cell j]
    simpa [drC] using hu⟩
  refine step_app _ hgd s x 23 ho elem_drain hs h1.own hx hrd rfl (hD.ones DrOk) (by unfold maxLen; omega) (by omega) (fun v' w' ho' hk hr' => ?_)
  have hx := LVx.app DrOk h1 (Kept.refl [] w0) hD (by simp) ho' (by simp) (by simp) hk hr'
  obtain ⟨A, m, c, rfl⟩ := Own.form' ho'
  exact h A m c w' ⟨_, _, hx⟩ hk (fun k hk => ⟨h1.new k hk, h1.own.lt k hk⟩)
structure VwAt (w wx : World) (g : Nat) (S : StD) (A1 : Option Addr) (m1 c1 : Nat) (A2 : Option Addr) (m2 c2 : Nat) (ds : List (Int × Int)) : Prop where
  blk : Blk wx g 26 #[.int .i64 S.gen, .slice A1 m1 c1, .slice A2 m2 c2, .slice none 0 0]
  bk : BkV w wx (.slice A1 m1 c1) S.backs
  dr : DrV w wx (.slice A2 m2 c2) ds
  res : Blk wx w.heap.size 26 #[.int .i64 0, .slice none 0 0, .slice none 0 0, .slice none 0 0]
  hg : w.heap.size < g
theorem VwAt.kept {w wx : World} {g : Nat} {S : StD} {A1 A2 : Option Addr} {m1 c1 m2 c2 : Nat} {ds : List (Int × Int)} (h : VwAt w wx g S A1 m1 c1 A2 m2 c2 ds) : Kept [] w wx := LV.kept h.bk
theorem VwAt.go {w wx wy : World} {g : Nat} {S : StD} {A1 A2 : Option Addr} {m1 c1 m2 c2 : Nat} {ds : List (Int × Int)} (h : VwAt w wx g S A1 m1 c1 A2 m2 c2 ds) (hk : Kept [] wx wy) : VwAt w wy g S A1 m1 c1 A2 m2 c2 ds :=
  ⟨h.blk.kept hk (by simp), LV.go BkOk h.bk hk, LV.go DrOk h.dr hk, h.res.kept hk (by simp), h.hg⟩
theorem own_apart {w : World} {e e' : TypeId} {s s' n n' : Nat} {v v' : Value} {xs xs' : List Value} (h : Own w e s v n xs) (h' : Own w e' s' v' n' xs') (hne : e ≠ e') : ∀ k ∈ rowOf v, k ∉ rowOf v' := by
  intro k hk hk'
  have h1 := mem_rowOf.1 hk
  have h2 := mem_rowOf.1 hk'
  rcases h.2 with ⟨rfl, _⟩ | ⟨g, cap, cur, rfl, _, hg, _⟩
  · simp [Value.ownBlock] at h1
  · rcases h'.2 with ⟨rfl, _⟩ | ⟨g', cap', cur', rfl, _, hg', _⟩
    · simp [Value.ownBlock] at h2
    · simp only [Value.ownBlock, Option.some.injEq] at h1 h2
      subst h1 h2
      exact hne (Blk.inj (t := e) hg hg').1
theorem row_apart {w : World} {e e' : TypeId} {k n s' : Nat} {α : Type} {enc : α → List Value} {g cap : Nat} {l : List α} {v' : Value} {xs' : List Value} (h : RowAt e k enc w g cap l) (h' : Own w e' s' v' n xs') (hne : e ≠ e') : g ∉ rowOf v' := by
  intro hm
  obtain ⟨cur, hb, _⟩ := h
  have h2 := mem_rowOf.1 hm
  rcases h'.2 with ⟨rfl, _⟩ | ⟨g', cap', cur', rfl, _, hg', _⟩
  · simp [Value.ownBlock] at h2
  · simp only [Value.ownBlock, Option.some.injEq] at h2
    subst h2
    exact hne (Blk.inj (t := e) hb hg').1
theorem BkV.other {W w w' : World} {T : List Nat} {v : Value} {l : List BackD} (h : BkV W w v l) (hk : Kept T w w') (hT : ∀ k ∈ rowOf v, k ∉ T) (hW : ∀ k ∈ T, W.heap.size ≤ k) : BkV W w' v l := by
  obtain ⟨css, G, hx⟩ := h
  exact ⟨css, [], hx.own.kept hk hT, hx.new, ⟨hx.decs.1, hx.decs.2⟩, by simp, hx.keptW.trans hk (fun k hk' => .inr (hW k hk'))⟩
theorem DrV.other {W w w' : World} {T : List Nat} {v : Value} {l : List (Int × Int)} (h : DrV W w v l) (hk : Kept T w w') (hT : ∀ k ∈ rowOf v, k ∉ T) (hW : ∀ k ∈ T, W.heap.size ≤ k) : DrV W w' v l := by
  obtain ⟨css, G, hx⟩ := h
  exact ⟨css, [], hx.own.kept hk hT, hx.new, ⟨hx.decs.1, hx.decs.2⟩, by simp, hx.keptW.trans hk (fun k hk' => .inr (hW k hk'))⟩
theorem VwAt.step {w wx w' : World} {g : Nat} {S : StD} {A1 A2 A3 : Option Addr} {m1 c1 m2 c2 m3 c3 : Nat} {ds ds' : List (Int × Int)} (h : VwAt w wx g S A1 m1 c1 A2 m2 c2 ds) (hd : DrV w w' (.slice A3 m3 c3) ds')
    (hk : Kept (rowOf (.slice A2 m2 c2)) wx w') : VwAt w (w'.setCell ⟨g, 2, none⟩ (.slice A3 m3 c3)) g S A1 m1 c1 A3 m3 c3 ds' ∧ Kept [g] w' (w'.setCell ⟨g, 2, none⟩ (.slice A3 m3 c3)) := by
  obtain ⟨css, G, hx⟩ := h.dr
  have hsl := hx.own
  have hnew := hx.new
  have hb' := h.blk.kept hk (hsl.ne_blk h.blk (by decide))
  have hr' := h.res.kept hk (hsl.ne_blk h.res (by decide))
  have hbk' := BkV.other h.bk hk (by obtain ⟨css', G', hy⟩ := h.bk; exact own_apart hy.own hsl (by decide)) hnew
  have hs : Kept [g] w' (w'.setCell ⟨g, 2, none⟩ (.slice A3 m3 c3)) := (Kept.refl [g] w').setCell (.inl (by simp)) _
  have hg := h.hg
  refine ⟨⟨?_, BkV.far hbk' hs hb' (by decide) (by omega), DrV.other hd hs (by obtain ⟨css', G', hy⟩ := hd; intro k hk' hm; simp at hm; subst hm; exact hy.own.ne_blk hb' (by decide) hk') (by simp; omega), hr'.kept hs (by simp; omega), hg⟩, hs⟩
  have := hb'.set 2 (.slice A3 m3 c3)
  simpa using this
theorem VwAt.blkOn {w wx w' : World} {g : Nat} {S : StD} {A1 A2 : Option Addr} {m1 c1 m2 c2 : Nat} {ds : List (Int × Int)} (h : VwAt w wx g S A1 m1 c1 A2 m2 c2 ds) (hk : Kept (rowOf (.slice A2 m2 c2)) wx w') :
    Blk w' g 26 #[.int .i64 S.gen, .slice A1 m1 c1, .slice A2 m2 c2, .slice none 0 0] := by
  obtain ⟨css, G, hx⟩ := h.dr
  exact h.blk.kept hk (hx.own.ne_blk h.blk (by decide))
theorem VwAt.rowOn {w wx w' : World} {g gI cap : Nat} {S : StD} {A1 A2 A3 : Option Addr} {m1 c1 m2 c2 m3 c3 : Nat} {ds : List (Int × Int)} {ks : List Int} (h : VwAt w wx g S A1 m1 c1 A2 m2 c2 ds) (hr : RowI wx gI cap ks) (hk : Kept (rowOf (.slice A2 m2 c2)) wx w') :
    RowI (w'.setCell ⟨g, 2, none⟩ (.slice A3 m3 c3)) gI cap ks := by
  obtain ⟨css, G, hx⟩ := h.dr
  have h1 := hr.kept hk (row_apart hr hx.own (by decide))
  have hb := h.blk
  have hne : gI ≠ g := by
    rintro rfl
    obtain ⟨cur, hc, _⟩ := hr
    exact absurd (Blk.inj (t := 3) hc hb).1 (by decide)
  exact h1.kept ((Kept.refl [g] w').setCell (.inl (by simp)) _) (by simpa using hne)
theorem FlV.other {W w w' : World} {T : List Nat} {v : Value} {l : List FlD} (h : FlV W w v l) (hk : Kept T w w') (hT : ∀ k ∈ rowOf v, k ∉ T) (hW : ∀ k ∈ T, W.heap.size ≤ k) : FlV W w' v l := by
  obtain ⟨css, G, hx⟩ := h
  exact ⟨css, [], hx.own.kept hk hT, hx.new, ⟨hx.decs.1, hx.decs.2⟩, by simp, hx.keptW.trans hk (fun k hk' => .inr (hW k hk'))⟩
theorem lv_far {α : Type} {Dec : World → List Nat → List Value → α → Prop} {e t : TypeId} {n : Nat} {W w : World} {v : Value} {l : List α} {g : Nat} {cs : Array Value} (h : LV Dec e n W w v l) (hb : Blk w g t cs) (hne : e ≠ t) : ∀ k ∈ rowOf v, k ∉ [g] := by
  obtain ⟨css, G, hx⟩ := h
  intro k hk hm
  simp at hm
  subst hm
  exact hx.own.ne_blk hb hne hk
structure Vw3 (w wx : World) (A1 : Option Addr) (m1 c1 : Nat) (A2 : Option Addr) (m2 c2 : Nat) (A3 : Option Addr) (m3 c3 : Nat) (bs : List BackD) (ds : List (Int × Int)) (fs : List FlD) : Prop where
  bk : BkV w wx (.slice A1 m1 c1) bs
  dr : DrV w wx (.slice A2 m2 c2) ds
  fl : FlV w wx (.slice A3 m3 c3) fs
theorem Vw3.far {w wx wy : World} {A1 A2 A3 : Option Addr} {m1 c1 m2 c2 m3 c3 : Nat} {bs : List BackD} {ds : List (Int × Int)} {fs : List FlD} (h : Vw3 w wx A1 m1 c1 A2 m2 c2 A3 m3 c3 bs ds fs) {g : Nat} {cs : Array Value} (hb : Blk wx g 26 cs) (hk : Kept [g] wx wy) (hg : w.heap.size ≤ g) : Vw3 w wy A1 m1 c1 A2 m2 c2 A3 m3 c3 bs ds fs :=
  ⟨BkV.other h.bk hk (lv_far h.bk hb (by decide)) (by simpa using hg), DrV.other h.dr hk (lv_far h.dr hb (by decide)) (by simpa using hg), FlV.other h.fl hk (lv_far h.fl hb (by decide)) (by simpa using hg)⟩
theorem VwAt.fin {w wx : World} {g : Nat} {S : StD} {A1 A2 A3 : Option Addr} {m1 c1 m2 c2 m3 c3 : Nat} {ds : List (Int × Int)} {fs : List FlD} (h : VwAt w wx g S A1 m1 c1 A2 m2 c2 ds) (hf : FlV w wx (.slice A3 m3 c3) fs) :
    Blk (wx.setCell ⟨g, 3, none⟩ (.slice A3 m3 c3)) g 26 #[.int .i64 S.gen, .slice A1 m1 c1, .slice A2 m2 c2, .slice A3 m3 c3] ∧ Vw3 w (wx.setCell ⟨g, 3, none⟩ (.slice A3 m3 c3)) A1 m1 c1 A2 m2 c2 A3 m3 c3 S.backs ds fs ∧
      Blk (wx.setCell ⟨g, 3, none⟩ (.slice A3 m3 c3)) w.heap.size 26 #[.int .i64 0, .slice none 0 0, .slice none 0 0, .slice none 0 0] := by
  have hs : Kept [g] wx (wx.setCell ⟨g, 3, none⟩ (.slice A3 m3 c3)) := (Kept.refl [g] wx).setCell (.inl (by simp)) _
  have hg := h.hg
  refine ⟨?_, Vw3.far ⟨h.bk, h.dr, hf⟩ h.blk hs (by omega), h.res.kept hs (by simp; omega)⟩
  have := h.blk.set 3 (.slice A3 m3 c3)
  simpa using this
structure VwD where
  gen : Int
  backs : List BackD
  drains : List (Int × Int)
  flows : List FlD
structure IsView (S : StD) (V : VwD) : Prop where
  gen : V.gen = S.gen
  backs : V.backs = S.backs
  dp : V.drains.Perm S.drains
  ds : V.drains.Pairwise fun a b => a.1 < b.1
  fp : V.flows.Perm (S.flows.map (·.2))
  fs : SrtF V.flows
theorem drains_of {S : StD} {ks : List Int} (hn : (S.drains.map (·.1)).Nodup) (hp : ks.Perm (S.drains.map (·.1))) (hs : ks.Pairwise (· < ·)) :
    (ks.map fun x => (x, (getM S.drains x).getD 0)).Perm S.drains ∧ (ks.map fun x => (x, (getM S.drains x).getD 0)).Pairwise fun a b => a.1 < b.1 := by
  refine ⟨?_, List.pairwise_map.2 (hs.imp fun h => h)⟩
  have h1 := hp.map fun x => (x, (getM S.drains x).getD 0)
  refine h1.trans ?_
  rw [List.map_map]
  have e : S.drains.map ((fun x => (x, (getM S.drains x).getD 0)) ∘ (·.1)) = S.drains := by
    conv => rhs; rw [← List.map_id S.drains]
    refine List.map_congr_left fun p hp' => ?_
    show (p.1, (getM S.drains p.1).getD 0) = p
    rw [getM_of_mem hn (x := p.1) (v := p.2) hp']; rfl
  rw [e]
theorem VwAt.newA {w w3 : World} {S : StD} {A3 : Option Addr} {m3 e3 : Nat} (hv : BkV w w3 (.slice A3 m3 e3) S.backs) (hr : Blk w3 w.heap.size 26 #[.int .i64 0, .slice none 0 0, .slice none 0 0, .slice none 0 0]) :
    VwAt w (w3.alloc (.cells #[.int .i64 S.gen, .slice A3 m3 e3, .slice none 0 0, .slice none 0 0] 26)) w3.heap.size S A3 m3 e3 none 0 0 [] :=
  ⟨Blk.new' _ rfl _ _, LV.go BkOk hv ((Kept.refl [] w3).alloc _), LV.nil ((LV.kept hv).alloc _), hr.alloc _, hr.lt⟩
theorem VwAt.newB {w w3 : World} {g : Nat} {S : StD} {A3 : Option Addr} {m3 e3 : Nat} (hv : BkV w w3 (.slice A3 m3 e3) S.backs) (hr : Blk w3 w.heap.size 26 #[.int .i64 0, .slice none 0 0, .slice none 0 0, .slice none 0 0]) (hz : Blk w3 g 26 #[.int .i64 0, .slice none 0 0, .slice none 0 0, .slice none 0 0]) (hg : w.heap.size < g) :
    VwAt w ((((w3.setCell ⟨g, 0, none⟩ (.int .i64 S.gen)).setCell ⟨g, 1, none⟩ (.slice A3 m3 e3)).setCell ⟨g, 2, none⟩ (.slice none 0 0)).setCell ⟨g, 3, none⟩ (.slice none 0 0)) g S A3 m3 e3 none 0 0 [] := by
  have hk : Kept [g] w3 ((((w3.setCell ⟨g, 0, none⟩ (.int .i64 S.gen)).setCell ⟨g, 1, none⟩ (.slice A3 m3 e3)).setCell ⟨g, 2, none⟩ (.slice none 0 0)).setCell ⟨g, 3, none⟩ (.slice none 0 0)) := (((((Kept.refl [g] w3).setCell (.inl (by simp)) _).setCell (.inl (by simp)) _).setCell (.inl (by simp)) _).setCell (.inl (by simp)) _)
  have hv' := BkV.far hv hk hz (by decide) (by omega)
  refine ⟨?_, hv', LV.nil (LV.kept hv'), hr.kept hk (by simp; omega), hg⟩
  have := (((hz.set 0 (.int .i64 S.gen)).set 1 (.slice A3 m3 e3)).set 2 (.slice none 0 0)).set 3 (.slice none 0 0)
  simpa using this
set_option maxHeartbeats 4000000 in
theorem View_any {W w : World} {p : Nat} {S : StD} (h : StB W w p S) (ok : OkS S) : Calls Tryz.prog 55 #[.pointer (some ⟨p, 0, none⟩)] w fun e w' => ∃ V A1 m1 c1 A2 m2 c2 A3 m3 c3, e = .returned (.agg #[.int .i64 V.gen, .slice A1 m1 c1, .slice A2 m2 c2, .slice A3 m3 c3]) ∧ IsView S V ∧ Vw3 w w' A1 m1 c1 A2 m2 c2 A3 m3 c3 V.backs V.drains V.flows := by
  obtain ⟨bd, bf, A, m, c, h⟩ := h
  have H := Lib.hid h
  have Ok := Lib.hid ok
  clear h ok
  have hp := H.out.blk.lt
  obtain ⟨w1, hw1⟩ : ∃ w1, w.alloc (.cells #[.int .i64 0, .slice none 0 0, .slice none 0 0, .slice none 0 0] 26) = w1 := ⟨_, rfl⟩
  have HW1 := Lib.hid hw1
  have hk1 : Kept [] w w1 := by rw [← hw1]; (repeat (first | exact Kept.refl _ _ | apply Kept.alloc | apply Kept.drew))
  have R1 : Hid (Blk w1 w.heap.size 26 #[.int .i64 0, .slice none 0 0, .slice none 0 0, .slice none 0 0]) := Lib.hid (by rw [← hw1]; (repeat (first | (apply Blk.new'; simp; done) | apply Blk.alloc | apply Blk.drew)))
  have hs1 : w.heap.size < w1.heap.size := R1.out.lt
  have H1 := Lib.hid (H.out.go hk1)
  have HK1 := Lib.hid hk1
  obtain ⟨c0, c1, c2, c3⟩ := H1.out.cells
  clear hk1 hw1
  go_enter Tryz.func55, Tryz.ntmps55
  go_upto_region 3 with fail
  rw [HW1.out]
  go_cut [3] (fun u3 wx => ∃ g A1 m1 c1, u3 = .pointer (some ⟨g, 0, none⟩) ∧ VwAt w wx g S A1 m1 c1 none 0 0 [])
  case first =>
    have hmb := (mayBs_iff.1 Ok.out.mb).1
    have CL := Lib.hid (fun (w' : World) (hk : Kept [] w1 w') => show Calls Tryz.prog 91 #[.slice A m c] w' fun e w2 => ∃ A3 m3 e3, e = .returned (.slice A3 m3 e3) ∧ BkV w w2 (.slice A3 m3 e3) S.backs ∧ Kept [] w' w2 ∧ (∀ o, w2.cell? ⟨p, o, none⟩ = (#[.int .i64 S.gen, .slice A m c, .map (some bd), .map (some bf)] : Array Value)[o]?) ∧ (∀ obj o, (w2.alloc obj).cell? ⟨p, o, none⟩ = (#[.int .i64 S.gen, .slice A m c, .map (some bd), .map (some bf)] : Array Value)[o]?) from by
      obtain ⟨G9, h1, h2, h3⟩ := BkV.small (H1.out.go hk).bk (by omega)
      refine (CloneB_any w' S.backs h1 h2 h3).mono ?_
      rintro e w2 ⟨v, rfl, hv⟩
      have hkv := LV.kept hv
      have hw := LV.wide hv (HK1.out.trans hk (by simp))
      obtain ⟨A3, m3, e3, rfl⟩ := BkV.form hv
      exact ⟨A3, m3, e3, rfl, hw, hkv, (H1.out.blk.kept (hk.trans hkv (by simp)) (by simp)).cell, fun obj => ((H1.out.blk.kept (hk.trans hkv (by simp)) (by simp)).alloc obj).cell⟩)
    have KA : Hid (Kept [] w1 w1.drew) := Lib.hid ((Kept.refl [] w1).drew)
    have KB : Hid (Kept [] w1 (w1.alloc (.cells #[.int .i64 0, .slice none 0 0, .slice none 0 0, .slice none 0 0] 26)).drew) := Lib.hid (((Kept.refl [] w1).alloc _).drew)
    have ZB : Hid (Blk (w1.alloc (.cells #[.int .i64 0, .slice none 0 0, .slice none 0 0, .slice none 0 0] 26)).drew w1.heap.size 26 #[.int .i64 0, .slice none 0 0, .slice none 0 0, .slice none 0 0]) := Lib.hid (Blk.drew (Blk.new' _ rfl _ _))
    have hpa : ∀ obj o, (w1.alloc obj).cell? ⟨p, o, none⟩ = (#[.int .i64 S.gen, .slice A m c, .map (some bd), .map (some bf)] : Array Value)[o]? := fun obj => (H1.out.blk.alloc obj).cell
    go_region_law ((first
      | (go_simp
         go_at_call 91
         with_reducible refine (CL.out w1.drew KA.out).mono ?_
         go_must (rintro e w3 ⟨A3, m3, e3, rfl, hv3, hk3, hp3, hq3⟩)
         go_must (have Hk3 := Lib.hid (Kept.trans KA.out hk3 (fun i hi => .inl hi)))
         go_must (have Hv3 := Lib.hid hv3)
         clear hk3 hv3)
      | (go_simp
         go_at_call 91
         with_reducible refine (CL.out ((w1.alloc (.cells #[.int .i64 0, .slice none 0 0, .slice none 0 0, .slice none 0 0] 26)).drew) KB.out).mono ?_
         go_must (rintro e w3 ⟨A3, m3, e3, rfl, hv3, hk3, hp3, hq3⟩)
         go_must (have Hk3 := Lib.hid (Kept.trans KB.out hk3 (fun i hi => .inl hi)))
         go_must (have Hz := Lib.hid (Blk.kept ZB.out hk3 List.not_mem_nil))
         go_must (have Hv3 := Lib.hid hv3)
         go_must (have hz3 := Hz.out.cell)
         go_must (have hy3 := Hz.out.frozen)
         clear hk3 hv3)))
    all_goals
      have hR3 := R1.out.kept Hk3.out (by simp)
      go_wp2_with fail
      go_meet
      show ∃ g A1 m1 c1, _ = Value.pointer (some ⟨g, 0, none⟩) ∧ VwAt w _ g S A1 m1 c1 none 0 0 []
      first
        | exact ⟨_, _, _, _, rfl, VwAt.newA Hv3.out hR3⟩
        | exact ⟨_, _, _, _, rfl, VwAt.newB Hv3.out hR3 Hz.out hs1⟩
  case rest =>
    obtain ⟨g, A1, m1, e1, rfl, hv⟩ := hcut
    clear c0 c1 c2 c3
    have HV := Lib.hid hv
    have HC := Lib.hid (H.out.go hv.kept)
    obtain ⟨c0, c1, c2, c3⟩ := HC.out.cells
    have hld := Ok.out.ld
    have kA : Kept [] wc (wc.alloc (.cells #[.map (some bd)] 141)) := (Kept.refl [] wc).alloc _
    have BA := Blk.new wc 141 #[.map (some bd)]
    have SO := Lib.hid (SortedI_any (wc.alloc (.cells #[.map (some bd)] 141)) wc.heap.size bd S.drains hld (BA.cell 0) BA.lt (HC.out.go kA).md)
    have KA := Lib.hid kA
    clear kA BA hld hv
    go_wp2_with (first
      | (go_at_call 96
         refine (Keys_any _ _).mono ?_
         rintro e w4 ⟨rfl, rfl⟩)
      | (go_at_call 95
         refine SO.out.mono ?_
         rintro e w5 ⟨v5, ks, rfl, hp5, hs5, hk5, hv5⟩
         obtain ⟨A5, n5, e5, rfl⟩ : ∃ A5 n5 e5, v5 = .slice A5 n5 e5 := (by rcases hv5 with ⟨rfl, _⟩ | ⟨g5, cap5, rfl, _⟩ <;> exact ⟨_, _, _, rfl⟩)
         have HK5 := Lib.hid (KA.out.trans hk5 (by simp))
         have HP5 := Lib.hid hp5
         have HS5 := Lib.hid hs5
         have HV5 := Lib.hid hv5
         clear hp5 hs5 hk5 hv5))
    have hn5 : n5 = ks.length := by
      rcases HV5.out with ⟨h1, rfl⟩ | ⟨g5, cap5, h1, _⟩ <;> (injection h1)
    have hl16 : n5 ≤ 16 := by
      have h1 := HP5.out.length_eq
      have h2 := Ok.out.ld
      simp at h1
      omega
    have HN5 := Lib.hid hn5
    clear hn5 c0 c1 c2 c3
    go_loopg [26] n5 (fun gg i wr => ∃ (k : Nat) (A2 : Option Addr) (m2 c2 : Nat), k ≤ n5 ∧ gg = n5 - k ∧ i = .int .i64 k ∧ VwAt w wr g S A1 m1 e1 A2 m2 c2 ((ks.take k).map fun x => (x, (getM S.drains x).getD 0)) ∧ (ks = [] ∨ ∃ gI cap, A5 = some ⟨gI, 0, none⟩ ∧ RowI wr gI cap ks))
    case atStart =>
      refine ⟨0, none, 0, 0, Nat.zero_le _, by omega, rfl, by simpa using HV.out.go HK5.out, ?_⟩
      rcases HV5.out with ⟨h1, h2⟩ | ⟨g5, cap5, h1, h2, h3⟩
      · exact .inl h2
      · injection h1 with h1 _ _
        exact .inr ⟨g5, cap5, h1, h2⟩
    case round =>
      obtain ⟨k, A2, m2, e2, hkn, rfl, rfl, hvk, hik⟩ := hrel
      have HVk := Lib.hid hvk
      have HIk := Lib.hid hik
      clear hvk hik
      by_cases hlt : k < n5
      · obtain ⟨gI, capI, rfl, hrI⟩ : ∃ gI cap, A5 = some ⟨gI, 0, none⟩ ∧ RowI wr gI cap ks := by
          rcases HIk.out with h1 | h1
          · have := HN5.out; rw [h1] at this; simp at this; omega
          · exact h1
        have hkl : k < ks.length := by have := HN5.out; omega
        obtain ⟨x, hx⟩ : ∃ x, ks[k]? = some x := ⟨_, List.getElem?_eq_getElem hkl⟩
        have hcI : wr.cell? ⟨gI, k, none⟩ = some (.int .i64 x) := by
          have := hrI.cell hx (c := 0) (v := .int .i64 x) rfl
          simpa using this
        have HRI := Lib.hid hrI
        obtain ⟨val, hval⟩ : ∃ val, (getM S.drains x).getD 0 = val := ⟨_, rfl⟩
        have HX := Lib.hid hx
        have HVAL := Lib.hid hval
        have hKw := HVk.out.kept
        have HCk := Lib.hid (H.out.go hKw)
        have hlook : (Instr.lookup 141 (.map (some bd)) (.int .i64 x) false).run Tryz.prog wr.drew = .ok (.int .i64 val) wr.drew := by
          have := ((HCk.out.go ((Kept.refl [] wr).drew)).md).look ekI_fam Tryz.underlying141 (z := .int .i64 0) (by go_simp) false x
          rw [← hval]
          refine this.trans ?_
          cases getM S.drains x <;> rfl
        obtain ⟨c0, c1, c2, c3⟩ := HCk.out.cells
        have hcg := HVk.out.blk.cell
        have hcga : ∀ obj o, (wr.alloc obj).cell? ⟨g, o, none⟩ = (#[.int .i64 S.gen, .slice A1 m1 e1, .slice A2 m2 e2, .slice none 0 0] : Array Value)[o]? := fun obj => (HVk.out.blk.alloc obj).cell
        have i1 : (k : Int) < (n5 : Int) := by omega
        have i0 : (0 : Int) ≤ (k : Int) := by omega
        have iw : IntKind.i64.wrap ((k : Int) + 1) = (k : Int) + 1 := IntWalk.i64_in _ (by omega)
        have hk0 : Kept [] wr (wr.alloc (.cells #[.int .i64 x, .int .i64 val] 118)).drew := by (repeat (first | exact Kept.refl _ _ | apply Kept.alloc | apply Kept.drew))
        have V0 := Lib.hid (HVk.out.go hk0)
        have K0 := Lib.hid hk0
        have X0 := Lib.hid (show Blk (wr.alloc (.cells #[.int .i64 x, .int .i64 val] 118)).drew wr.heap.size 118 #[.int .i64 x, .int .i64 val] from by (repeat (first | (apply Blk.new'; simp; done) | apply Blk.alloc | apply Blk.drew)))
        clear hx hval hKw hk0 hrI
        go_wp2
        have hdl : ((ks.take k).map fun x => (x, (getM S.drains x).getD 0)).length ≤ 100000 := by rw [List.length_map, List.length_take]; omega
        have HDL := Lib.hid hdl
        clear hdl
        go_region_law ((first
          | (refine step_dr (W := w) (w0 := (wr.alloc (.cells #[.int .i64 x, .int .i64 val] 118)).drew) (l := (ks.take k).map fun x => (x, (getM S.drains x).getD 0)) (d := (x, val)) (g := wr.heap.size) rfl (.tmp 31) (.tmp 40) rfl (by first | (simp [Act.eval]; done) | (simp [Act.eval]; rfl) | rfl) V0.out.dr (by first | (simp [Act.eval]; done) | (simp [Act.eval]; rfl) | rfl) X0.out HDL.out ?_
             intro A9 m9 e9 w9 h1 k1 r1
             go_must (have B9 := Lib.hid (V0.out.blkOn k1))
             go_must (have hc9 := B9.out.cell)
             go_must (have hf9 := B9.out.frozen)
             have H9 := Lib.hid h1
             have K9 := Lib.hid k1
             clear h1 k1 r1)))
        all_goals
          have hst := V0.out.step H9.out K9.out
          have HROW := Lib.hid (V0.out.rowOn (A3 := A9) (m3 := m9) (c3 := e9) (HRI.out.kept K0.out (by simp)) K9.out)
          have HVW := Lib.hid hst.1
          clear hst hc9 hf9 c0 c1 c2 c3 hcg hcga hcI hlook
          generalize w9.setCell ⟨g, 2, none⟩ (.slice A9 m9 e9) = wz at *
          go_wp2
          go_roundg (n5 - (k + 1))
          case measure => omega
          case rel =>
            refine ⟨k + 1, A9, m9, e9, by omega, rfl, by go_num, ?_, .inr ⟨gI, capI, rfl, HROW.out⟩⟩
            have e : ((ks.take (k + 1)).map fun x => (x, (getM S.drains x).getD 0)) = ((ks.take k).map fun x => (x, (getM S.drains x).getD 0)) ++ [(x, val)] := by
              rw [List.take_add_one, HX.out, Option.toList_some, List.map_append, List.map_singleton, HVAL.out]
            rw [e]
            exact HVW.out
      · obtain rfl : k = n5 := by omega
        have i1 : ¬ (k : Int) < (k : Int) := by omega
        obtain ⟨q1, q2⟩ := drains_of Ok.out.nd HP5.out HS5.out
        have hds : (ks.take k).map (fun x => (x, (getM S.drains x).getD 0)) = ks.map fun x => (x, (getM S.drains x).getD 0) := by rw [List.take_of_length_le (by have := HN5.out; omega)]
        have hv' := HVk.out
        rw [hds] at hv'
        obtain ⟨ds, hdd⟩ : ∃ ds, ks.map (fun x => (x, (getM S.drains x).getD 0)) = ds := ⟨_, rfl⟩
        rw [hdd] at q1 q2 hv'
        have Q1 := Lib.hid q1
        have Q2 := Lib.hid q2
        have HV9 := Lib.hid hv'
        have HCk := Lib.hid (H.out.go hv'.kept)
        obtain ⟨c0, c1, c2, c3⟩ := HCk.out.cells
        have kA : Kept [] wr (wr.alloc (.cells #[.map (some bf)] 142)) := (Kept.refl [] wr).alloc _
        have BA := Blk.new wr 142 #[.map (some bf)]
        have SF := Lib.hid (SortedF_any (wr.alloc (.cells #[.map (some bf)] 142)) wr.heap.size bf S.flows Ok.out.own Ok.out.lf (BA.cell 0) BA.lt (HCk.out.go kA).mf)
        have KA2 := Lib.hid kA
        clear kA BA q1 q2 hds hdd hv' HVk HIk
        go_upto_region 10 with (first
          | (go_at_call 98
             refine (Values_any _ _).mono ?_
             rintro e w4 ⟨rfl, rfl⟩)
          | (go_at_call 97
             refine SF.out.mono ?_
             rintro e w6 ⟨v6, lf, rfl, hp6, hs6, hv6⟩
             obtain ⟨A6, m6, e6, rfl⟩ : ∃ A6 m6 e6, v6 = .slice A6 m6 e6 := (by obtain ⟨_, _, hq⟩ := hv6; exact Own.form' hq.own)
             have HP6 := Lib.hid hp6
             have HS6 := Lib.hid hs6
             have hk6 := KA2.out.trans (LV.kept hv6) (fun i hi => .inl hi)
             have V6 := Lib.hid (HV9.out.go hk6)
             have F6 := Lib.hid (show FlV w w6 (.slice A6 m6 e6) lf from LV.wide hv6 (HV9.out.kept.trans KA2.out (fun i hi => .inl hi)))
             have hc6 := V6.out.blk.cell
             have hf6 := V6.out.blk.frozen
             clear hp6 hs6 hv6 hk6))
        obtain ⟨b7, v7, r7⟩ := V6.out.fin F6.out
        have B7 := Lib.hid b7
        have V7 := Lib.hid v7
        have R7 := Lib.hid r7
        clear b7 v7 r7 hc6 hf6
        have hgw := V6.out.hg
        generalize w6.setCell { block := g, off := 3 } (.slice A6 m6 e6) = w7 at *
        have hz7 := B7.out.cell
        go_wp2_with ((with_reducible show wpList _ _ _ ({ dst := none, op := Op.store 26 (.tmp 2) (.tmp 51), type := _, pos := _, after := _, guard := _ } :: _) _ _); refine wpList_put (t := 26) rfl 26 (.tmp 2) (.tmp 51) rfl _ (by rfl) (by rfl) (by exact R7.out) (by rfl) (by kernel_rfl) (by simp [Value.oneCell']) ?_; intro w8 hb8 hk8; have Hb8 := Lib.hid hb8; have Hk8 := Lib.hid hk8; clear hb8 hk8)
        have V8 := Lib.hid (Vw3.far V7.out R7.out Hk8.out (Nat.le_refl _))
        refine bodyPost_ret (results_cell (t := 26) Tryz.results55 (by rfl) Hb8.out _ Tryz.underlying26 rfl (by kernel_rfl)) rfl ?_
        exact ⟨⟨S.gen, S.backs, ds, lf⟩, A1, m1, e1, A2, m2, e2, A6, m6, e6, rfl, ⟨rfl, rfl, Q1.out, Q2.out, HP6.out, HS6.out⟩, V8.out⟩
end
end Go.Proofs.YtkacghjglicjiaaGreat
