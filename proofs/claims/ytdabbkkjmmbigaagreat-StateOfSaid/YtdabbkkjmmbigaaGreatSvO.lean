
/-
  The document's state in memory; what its Apply owes.
-/
import Derived.Test.YtdabbkkjmmbigaaGreatSvM
import Derived.Test.YtdabbkkjmmbigaaGreatSvJ
import Derived.Test.YtdabbkkjmmbigaaGreatSvI
import Derived.Test.YtdabbkkjmmbigaaGreatRecQ
namespace Go.Proofs.YtdabbkkjmmbigaaGreat
open Go.RowKit Go.ChangeShapes Go.WideShapes Go.ChangeAt Go.Deep Go.MapKept
set_option linter.unusedVariables false

/-- the document's state in block q; its rows lie in blocks of G -/
def DvAt (w : World) (q : Nat) (G : List Nat) (V : VwD) : Prop := ∃ (A1 : Option Addr) (m1 c1 : Nat) (A2 : Option Addr) (m2 c2 : Nat) (A3 : Option Addr) (m3 c3 : Nat), Blk w q 52 #[.int .i64 V.gen, .slice A1 m1 c1, .slice A2 m2 c2, .slice A3 m3 c3] ∧ VA w G A1 m1 c1 A2 m2 c2 A3 m3 c3 V ∧ q ∉ G
theorem DvAt.kept {w w' : World} {q : Nat} {G S : List Nat} {V : VwD} (h : DvAt w q G V) (hk : Kept S w w') (hq : q ∉ S) (hG : ∀ k ∈ G, k ∉ S) : DvAt w' q G V := by
  obtain ⟨A1, m1, c1, A2, m2, c2, A3, m3, c3, h1, h2, h3⟩ := h
  exact ⟨A1, m1, c1, A2, m2, c2, A3, m3, c3, h1.kept hk hq, h2.kept hk hG, h3⟩
theorem DvAt.go {w w' : World} {q : Nat} {G : List Nat} {V : VwD} (h : DvAt w q G V) (hk : Kept [] w w') : DvAt w' q G V := h.kept hk (by simp) (by simp)
/-- what Apply owes -/
def VApPost (w : World) (q : Nat) (G : List Nat) (V : VwD) (r : RecD) (e : Ending) (w' : World) : Prop :=
  e = .returned (.int .i64 (errV V r)) ∧ Kept [q] w w' ∧ ∃ G', DvAt w' q G' (applyV V r) ∧ ∀ k ∈ G', k ∈ G ∨ w.heap.size ≤ k
theorem VApPost.bad {w w' : World} {q : Nat} {G : List Nat} {A1 A2 A3 : Option Addr} {m1 c1 m2 c2 m3 c3 : Nat} {V : VwD} {r : RecD} (hb : Blk w' q 52 #[.int .i64 V.gen, .slice A1 m1 c1, .slice A2 m2 c2, .slice A3 m3 c3]) (hv : VA w' G A1 m1 c1 A2 m2 c2 A3 m3 c3 V) (hq : q ∉ G) (hk : Kept [] w w') {n : Int} (he : errV V r = n) (hn : n ≠ 0) : VApPost w q G V r (.returned (.int .i64 n)) w' :=
  ⟨by rw [he], hk.mono (by simp), G, by unfold applyV; rw [if_neg (by rw [he]; exact hn)]; exact ⟨A1, m1, c1, A2, m2, c2, A3, m3, c3, hb, hv, hq⟩, fun k hk => .inl hk⟩
theorem VApPost.good {w w' : World} {q : Nat} {G G' : List Nat} {V V' : VwD} {r : RecD} (hk : Kept [q] w w') (he : errV V r = 0) (hd : doneV V r = V') (h : DvAt w' q G' V') (hG : ∀ k ∈ G', k ∈ G ∨ w.heap.size ≤ k) : VApPost w q G V r (.returned (.int .i64 0)) w' :=
  ⟨by rw [he], hk, G', by unfold applyV; rw [if_pos he, hd]; exact h, hG⟩
theorem VApPost.drew {w w' : World} {q : Nat} {G : List Nat} {V : VwD} {r : RecD} {e : Ending} (h : VApPost w q G V r e w') : VApPost w q G V r e w'.drew := by
  obtain ⟨h1, h2, G', h3, h4⟩ := h
  exact ⟨h1, h2.drew, G', h3.go ((Kept.refl [] w').drew), h4⟩
theorem blk_set {w : World} {q : Nat} {t : TypeId} {cs : Array Value} (h : Blk w q t cs) (i : Nat) (u : Value) {cs' : Array Value} (hc : cs.setIfInBounds i u = cs') : Blk (w.setCell ⟨q, i, none⟩ u) q t cs' := hc ▸ h.set i u
/-- another row of flows, of drains -/
theorem DvAt.put3 {w : World} {q : Nat} {G G' : List Nat} {A1 A2 A3 : Option Addr} {m1 c1 m2 c2 m3 c3 : Nat} {V : VwD} (hb : Blk w q 52 #[.int .i64 V.gen, .slice A1 m1 c1, .slice A2 m2 c2, .slice A3 m3 c3]) (hv : VA w G A1 m1 c1 A2 m2 c2 A3 m3 c3 V) (hq : q ∉ G) {A : Option Addr} {m c : Nat} {l : List FlD} (ha : FlArr w G' (.slice A m c) l) (hl : ∀ k ∈ G', k < w.heap.size) (hq' : q ∉ G') :
    DvAt (w.setCell ⟨q, 3, none⟩ (.slice A m c)) q (G ++ G') { V with flows := l } := by
  have hk := (Kept.refl [q] w).setCell (p := ⟨q, 3, none⟩) (.inl (by simp)) (.slice A m c)
  have hn : ∀ k ∈ G ++ G', k ∉ [q] := by intro k hkg hm; have he : k = q := (by simpa using hm); rw [he] at hkg; rcases List.mem_append.1 hkg with h | h; exact hq h; exact hq' h
  refine ⟨A1, m1, c1, A2, m2, c2, A, m, c, blk_set hb 3 _ (by simp), ⟨BkArr.kept (arr_mono BkOk hv.bk (fun k hk => List.mem_append.2 (.inl hk))) hk hn, DrArr.kept (arr_mono DrOk hv.dr (fun k hk => List.mem_append.2 (.inl hk))) hk hn, FlArr.kept (arr_mono FlOk ha (fun k hk => List.mem_append.2 (.inr hk))) hk hn, fun k hk' => ?_⟩, fun h => hn q h (by simp)⟩
  refine Nat.lt_of_lt_of_le ?_ hk.size
  rcases List.mem_append.1 hk' with h | h
  · exact hv.lt k h
  · exact hl k h
theorem DvAt.put2 {w : World} {q : Nat} {G G' : List Nat} {A1 A2 A3 : Option Addr} {m1 c1 m2 c2 m3 c3 : Nat} {V : VwD} (hb : Blk w q 52 #[.int .i64 V.gen, .slice A1 m1 c1, .slice A2 m2 c2, .slice A3 m3 c3]) (hv : VA w G A1 m1 c1 A2 m2 c2 A3 m3 c3 V) (hq : q ∉ G) {A : Option Addr} {m c : Nat} {l : List (Int × Int)} (ha : DrArr w G' (.slice A m c) l) (hl : ∀ k ∈ G', k < w.heap.size) (hq' : q ∉ G') :
    DvAt (w.setCell ⟨q, 2, none⟩ (.slice A m c)) q (G ++ G') { V with drains := l } := by
  have hk := (Kept.refl [q] w).setCell (p := ⟨q, 2, none⟩) (.inl (by simp)) (.slice A m c)
  have hn : ∀ k ∈ G ++ G', k ∉ [q] := by intro k hkg hm; have he : k = q := (by simpa using hm); rw [he] at hkg; rcases List.mem_append.1 hkg with h | h; exact hq h; exact hq' h
  refine ⟨A1, m1, c1, A, m, c, A3, m3, c3, blk_set hb 2 _ (by simp), ⟨BkArr.kept (arr_mono BkOk hv.bk (fun k hk => List.mem_append.2 (.inl hk))) hk hn, DrArr.kept (arr_mono DrOk ha (fun k hk => List.mem_append.2 (.inr hk))) hk hn, FlArr.kept (arr_mono FlOk hv.fl (fun k hk => List.mem_append.2 (.inl hk))) hk hn, fun k hk' => ?_⟩, fun h => hn q h (by simp)⟩
  refine Nat.lt_of_lt_of_le ?_ hk.size
  rcases List.mem_append.1 hk' with h | h
  · exact hv.lt k h
  · exact hl k h
/-- another set of backends, another generation -/
theorem DvAt.put1 {w w' : World} {q : Nat} {G G' : List Nat} {A1 A2 A3 : Option Addr} {m1 c1 m2 c2 m3 c3 : Nat} {V : VwD} {g : Int} (hv : VA w G A1 m1 c1 A2 m2 c2 A3 m3 c3 V) (hq : q ∉ G) {A : Option Addr} {m c : Nat} {l : List BackD} (ha : BkArr w G' (.slice A m c) l) (hl : ∀ k ∈ G', k < w.heap.size) (hq' : q ∉ G') (hk : Kept [q] w w')
    (hb : Blk w' q 52 #[.int .i64 g, .slice A m c, .slice A2 m2 c2, .slice A3 m3 c3]) : DvAt w' q (G ++ G') { V with gen := g, backs := l } := by
  have hn : ∀ k ∈ G ++ G', k ∉ [q] := by intro k hkg hm; have he : k = q := (by simpa using hm); rw [he] at hkg; rcases List.mem_append.1 hkg with h | h; exact hq h; exact hq' h
  refine ⟨A, m, c, A2, m2, c2, A3, m3, c3, hb, ⟨BkArr.kept (arr_mono BkOk ha (fun k hk => List.mem_append.2 (.inr hk))) hk hn, DrArr.kept (arr_mono DrOk hv.dr (fun k hk => List.mem_append.2 (.inl hk))) hk hn, FlArr.kept (arr_mono FlOk hv.fl (fun k hk => List.mem_append.2 (.inl hk))) hk hn, fun k hk' => ?_⟩, fun h => hn q h (by simp)⟩
  refine Nat.lt_of_lt_of_le ?_ hk.size
  rcases List.mem_append.1 hk' with h | h
  · exact hv.lt k h
  · exact hl k h
theorem flows_drop {l : List FlD} (hs : SrtF l) {i : Nat} (hi : i < l.length) {t : TupD} (h : atI l t = (i : Nat)) : l.take i ++ l.drop (i + 1) = l.filter fun x => !decide (x.tup = t) := by
  rcases at_cases l t with ⟨h1, _⟩ | ⟨j, hj, h1, h2, h3⟩
  · rw [h] at h1; omega
  · obtain rfl : j = i := by rw [h] at h1; omega
    have hd : l = l.take j ++ l[j] :: l.drop (j + 1) := by rw [← List.drop_eq_getElem_cons hj, List.take_append_drop]
    have hp : (l.take j ++ l[j] :: l.drop (j + 1)).Pairwise fun a b => lessT a.tup b.tup = true := by rw [← hd]; exact hs
    rw [List.pairwise_append] at hp
    have hp2 := (List.pairwise_cons.1 hp.2.1).1
    have e1 : (l.take j).filter (fun x => !decide (x.tup = t)) = l.take j := List.filter_eq_self.2 fun x hx => by simp [h3 x hx]
    have e2 : (l.drop (j + 1)).filter (fun x => !decide (x.tup = t)) = l.drop (j + 1) := List.filter_eq_self.2 fun x hx => by
      have h4 := hp2 x hx
      have : x.tup ≠ t := fun e => by rw [e, h2, less_irr] at h4; cases h4
      simp [this]
    conv => rhs; rw [hd]
    rw [List.filter_append, List.filter_cons_of_neg (by simp [h2]), e1, e2]
theorem flows_none {l : List FlD} {t : TupD} (h : atI l t = -1) : (l.filter fun x => !decide (x.tup = t)) = l := by
  rcases at_cases l t with ⟨_, h1⟩ | ⟨j, hj, h1, _, _⟩
  · exact List.filter_eq_self.2 fun x hx => by simp [h1 x hx]
  · rw [h] at h1; omega
theorem mayR_fl {r : RecD} (hk : r.kind = 1) (h : mayR r = true) : mayFl (flowR r) = true := by
  simp only [mayR, hk] at h
  simpa [mayFl, flowR] using h
theorem badS_back {r : RecD} (h : badS r = false) : mayR r = true := by
  unfold badS at h
  cases hm : mayR r
  · rw [hm] at h; simp at h
  · rfl
theorem errV_bad {V : VwD} {r : RecD} (h : badS r = true) : errV V r = 1 := by unfold errV; rw [if_pos h]
end Go.Proofs.YtdabbkkjmmbigaaGreat
