
/-
  A disk copied: what is true between the steps.
-/
import Derived.Test.YthdjdfdefibepaaCpB
namespace Go.Proofs.Ythdjdfdefibepaa
open Go.RowKit Go.ChangeShapes Go.WideShapes Go.ChangeAt Go.Deep Go.MapKept
set_option linter.unusedVariables false

section
variable {w w' : World} {G : List Nat} {p : Nat} {fb : List Nat} {D : DkD} {bn bs : Nat} {A : Option Addr} {m c : Nat}
/-- one file more, with bytes of its own; the disk's names and changes name files that are -/
theorem DkX.addF {g : Nat} {f : FlE} {v' : Value} (h : DkX w G p fb D bn bs A m c) (hn : ∀ q ∈ D.now, q.2 < D.files.length) (hs : ∀ q ∈ D.sur, q.2 < D.files.length) (hc : ∀ c ∈ D.ch, ∀ i, c.f = some i → i < D.files.length)
    {S : List Nat} (hk : Kept S w w') (hS : ∀ k ∈ S, k ∉ G) (hg : w.heap.size ≤ g) (hb : Blk w' g 71 #[v', .int .i64 (f.sure : Nat)]) (ho : Own w' 5 1 v' f.b.length (u8s f.b)) (hr : ∀ k ∈ rowOf v', w.heap.size ≤ k) :
    DkX w' (g :: (rowOf v' ++ G)) p (fb ++ [g]) { D with files := D.files ++ [f] } bn bs A m c := by
  have hl := h.fs.len
  have h' := h.far hk hS
  have ht : ∀ i, i < D.files.length → evF fb i = evF (fb ++ [g]) i := fun i hi => by unfold evF; rw [getD_app fb _ (by omega)]
  have hsz := hk.size
  have hfs : FsAt w' (g :: (rowOf v' ++ G)) (fb ++ [g]) (D.files ++ [f]) := by
    -- the world between: w' seen from itself
    have hfs0 := h'.fs
    obtain ⟨h1, h2, h3, sl, h4, h5, h6, h7⟩ := hfs0
    refine ⟨by simp [h1], ?_, fun g' hg' => ?_, sl ++ [v'], by simp [h4], fun i g' v f' ha hv hf => ?_, fun i j v u ha hv hij k hk' hm => ?_, fun v hv k hk' => ?_⟩
    · rw [List.nodup_append]
      refine ⟨h2, by simp, fun a ha b hb' => ?_⟩
      obtain rfl : b = _ := by simpa using hb'
      have := h.lt a (h3 a ha); omega
    · rcases List.mem_append.1 hg' with hg' | hg'
      · exact List.mem_cons_of_mem _ (List.mem_append_right _ (h3 g' hg'))
      · obtain rfl : g' = _ := by simpa using hg'
        exact List.mem_cons_self
    · by_cases hi : i < D.files.length
      · rw [List.getElem?_append_left (by omega)] at ha hv hf
        exact h5 i g' v f' ha hv hf
      · have hle := (List.getElem?_eq_some_iff.1 hf).1
        have hi' : i = D.files.length := by simp at hle; omega
        subst hi'
        rw [List.getElem?_append_right (by omega)] at ha hv hf
        simp [h1, h4] at ha hv hf
        subst ha hv hf
        exact ⟨hb, ho⟩
    · have key : ∀ (i : Nat) (v : Value), (sl ++ [v'])[i]? = some v → (i < D.files.length ∧ sl[i]? = some v) ∨ (i = D.files.length ∧ v = v') := fun i v hv => by
        by_cases hi : i < D.files.length
        · rw [List.getElem?_append_left (by omega)] at hv
          exact .inl ⟨hi, hv⟩
        · rw [List.getElem?_append_right (by omega)] at hv
          obtain ⟨hl, hv⟩ := List.getElem?_eq_some_iff.1 hv
          simp at hl
          right
          refine ⟨by omega, ?_⟩
          simpa using hv.symm
      have old : ∀ (i : Nat) (v : Value), sl[i]? = some v → ∀ k ∈ rowOf v, k < w.heap.size := fun i v hv k hk => h.lt k (h7 v (List.mem_of_getElem? hv) k hk)
      rcases key i v ha with ⟨hi, ha2⟩ | ⟨hi, ha2⟩
      · rcases key j u hv with ⟨hj, hv2⟩ | ⟨hj, hv2⟩
        · exact h6 i j v u ha2 hv2 hij k hk' hm
        · rw [hv2] at hm
          have q1 := old i v ha2 k hk'
          have q2 := hr k hm
          omega
      · rcases key j u hv with ⟨hj, hv2⟩ | ⟨hj, hv2⟩
        · rw [ha2] at hk'
          have q1 := old j u hv2 k hm
          have q2 := hr k hk'
          omega
        · omega
    · rcases List.mem_append.1 hv with hv | hv
      · exact List.mem_cons_of_mem _ (List.mem_append_right _ (h7 v hv k hk'))
      · obtain rfl : v = _ := by simpa using hv
        exact List.mem_cons_of_mem _ (List.mem_append_left _ hk')
  have inG : ∀ k ∈ G, k ∈ g :: (rowOf v' ++ G) := fun k hk => List.mem_cons_of_mem _ (List.mem_append_right _ hk)
  refine ⟨h'.blk, h'.now.turn (fun q hq => ht _ (hn q hq)), h'.sur.turn (fun q hq => ht _ (hs q hq)), h.ne, ?_, hfs, inG _ h.inn, inG _ h.ins, inG _ h.inp, fun k hk' => inG _ (h.inr k hk'), fun k hk' => ?_⟩
  · have := h'.row
    rwa [← chsC_more fb [g] D.ch (fun c hc' i hi => by rw [hl]; exact hc c hc' i hi)] at this
  · rcases List.mem_cons.1 hk' with rfl | hk'
    · exact hb.lt
    · rcases List.mem_append.1 hk' with hk' | hk'
      · exact ho.lt k hk'
      · exact Nat.lt_of_lt_of_le (h.lt k hk') hsz
/-- names that are sure have become others -/
theorem DkX.surs (h : DkX w G p fb D bn bs A m c) (hk : Kept [bs] w w') {l : List (Bs × Nat)} (hm : MapB ekS (evF fb) w' bs l) : DkX w' G p fb { D with sur := l } bn bs A m c := by
  have hS : ∀ k ∈ [bs], Othr w k := fun k hk' => by
    obtain rfl : k = bs := by simpa using hk'
    exact Othr.of_map h.sur
  exact ⟨h.blk.kept hk (by simpa using fun e => h.sur.ne_blk h.blk e.symm), h.now.kept hk (by simpa using h.ne), hm, h.ne, h.row.kept hk (fun k hk' hm' => by
    obtain rfl : k = bs := by simpa using hm'
    exact h.row_ne.2.2 hk'), h.fs.kept hk hS, h.inn, h.ins, h.inp, h.inr, fun k hk' => Nat.lt_of_lt_of_le (h.lt k hk') hk.size⟩
end

/-- a disk being copied: the copy so far, the files copied so far (idx: the copy's files' numbers in the disk) -/
structure CpI (w0 w : World) (vb tb po : Nat) (fb : List Nat) (D D' : DkD) (idx fb' : List Nat) (nb sb : Nat) (A' : Option Addr) (m' c' : Nat) (G' : List Nat) (mt : List (Option Nat × Nat)) : Prop where
  x : DkX w G' po fb' D' nb sb A' m' c'
  k : Kept [] w0 w
  g : ∀ k ∈ G', w0.heap.size ≤ k ∧ k ≠ vb ∧ k ≠ tb
  v : CpV w vb tb mt
  vn : w0.heap.size ≤ vb ∧ w0.heap.size ≤ tb
  t1 : ∀ (j i : Nat), idx[j]? = some i → getM mt (some (fbA fb i)) = some (fbA fb' j)
  t2 : ∀ i, i < D.files.length → i ∉ idx → getM mt (some (fbA fb i)) = none
  mkk : ∀ q ∈ mt, ∃ i, i < D.files.length ∧ q.1 = some (fbA fb i)
  nd : idx.Nodup
  il : ∀ i ∈ idx, i < D.files.length
  fl : D'.files.length = idx.length
  ff : ∀ (j i : Nat), idx[j]? = some i → D'.files[j]? = D.files[i]?
  nr : ∀ q ∈ D'.now, q.2 < idx.length
  sr : ∀ q ∈ D'.sur, q.2 < idx.length
  cr : ∀ c ∈ D'.ch, ∀ i, c.f = some i → i < idx.length
  q1 : D'.quota = D.quota ∧ D'.ops = D.ops ∧ D'.fail = D.fail
section
variable {w0 w w' : World} {vb tb po : Nat} {fb : List Nat} {D D' : DkD} {idx fb' : List Nat} {nb sb : Nat} {A' : Option Addr} {m' c' : Nat} {G' : List Nat} {mt : List (Option Nat × Nat)}
theorem CpI.go (h : CpI w0 w vb tb po fb D D' idx fb' nb sb A' m' c' G' mt) (hk : Kept [] w w') : CpI w0 w' vb tb po fb D D' idx fb' nb sb A' m' c' G' mt :=
  ⟨h.x.go hk, h.k.trans hk (by simp), h.g, h.v.go hk, h.vn, h.t1, h.t2, h.mkk, h.nd, h.il, h.fl, h.ff, h.nr, h.sr, h.cr, h.q1⟩
/-- what a write into a block that is none of these leaves -/
theorem CpI.far (h : CpI w0 w vb tb po fb D D' idx fb' nb sb A' m' c' G' mt) {r : Nat} (hk : Kept [r] w w') (h1 : r ∉ G') (h2 : r ≠ vb) (h3 : r ≠ tb) (h4 : w0.heap.size ≤ r) (h5 : ∀ q ∈ mt, q.1 ≠ some r) : CpI w0 w' vb tb po fb D D' idx fb' nb sb A' m' c' G' mt :=
  ⟨h.x.far hk (by simpa using h1), h.k.trans hk (fun i hi => .inr (by simp at hi; omega)), h.g, h.v.kept hk (by simpa using fun e => h2 e.symm) (by simpa using fun e => h3 e.symm) (fun q hq g hg hm => by simp at hm; subst hm; exact h5 q hq hg), h.vn, h.t1, h.t2, h.mkk, h.nd, h.il, h.fl, h.ff, h.nr, h.sr, h.cr, h.q1⟩
/-- a file's copy asked for -/
theorem CpI.copied {G : List Nat} {i : Nat} {f : FlE} {gn : Nat} (h : CpI w0 w vb tb po fb D D' idx fb' nb sb A' m' c' G' mt) (hfs : FsAt w G fb D.files) (hi : D.files[i]? = some f) (hp : (getM mt (some (fbA fb i)) = some gn ∧ Kept [] w w') ∨ CopNew w vb tb mt (fbA fb i) f gn w') :
    ∃ idx2 fb2 G2 mt2 fs2 j, CpI w0 w' vb tb po fb D { D' with files := fs2 } idx2 fb2 nb sb A' m' c' G2 mt2 ∧ idx2[j]? = some i ∧ gn = fbA fb2 j ∧ (∃ more, idx2 = idx ++ more) ∧ (∀ k ∈ G', k ∈ G2) ∧ (∀ k ∈ G2, k ∈ G' ∨ w.heap.size ≤ k) ∧ Kept [tb] w w' := by
  have hil := (List.getElem?_eq_some_iff.1 hi).1
  rcases hp with ⟨h1, h2⟩ | ⟨h1, h2, h3, h4, A2, c2, h5, h6, h7⟩
  · have hm : i ∈ idx := Decidable.byContradiction fun hn => by rw [h.t2 i hil hn] at h1; cases h1
    obtain ⟨j, hj⟩ := List.getElem?_of_mem hm
    have := h.t1 j i hj
    rw [h1] at this
    injection this with this
    exact ⟨idx, fb', G', mt, D'.files, j, h.go h2, hj, this, ⟨[], by simp⟩, fun k hk => hk, fun k hk => .inl hk, h2.mono (by simp)⟩
  · have hn : i ∉ idx := fun hm => by
      obtain ⟨j, hj⟩ := List.getElem?_of_mem hm
      rw [h.t1 j i hj] at h1; cases h1
    have hlen := h.x.fs.len
    have htG : tb ∉ G' := fun hm => (h.g tb hm).2.2 rfl
    have hx := h.x.addF (f := f) (fun q hq => by rw [h.fl]; exact h.nr q hq) (fun q hq => by rw [h.fl]; exact h.sr q hq) (fun c hc i hi => by rw [h.fl]; exact h.cr c hc i hi) h3 (by simpa using htG) h4 h5 h6 (fun k hk => (h7 k hk).1)
    have hgl := h5.lt
    have hvb := h.v.var.lt
    have htb := h.v.map.lt
    have ks := h.k.size
    have hlt' : ∀ j, j < idx.length → fbA (fb' ++ [gn]) j = fbA fb' j := fun j hj => getD_app fb' [gn] (by rw [hlen, h.fl]; exact hj)
    have hlast : fbA (fb' ++ [gn]) idx.length = gn := fbA_last (by rw [hlen, h.fl])
    refine ⟨idx ++ [i], fb' ++ [gn], gn :: (rowOf (.slice A2 f.b.length c2) ++ G'), putM mt (some (fbA fb i)) gn, D'.files ++ [f], idx.length, ⟨hx, h.k.trans h3 (fun i hi => .inr (by simp at hi; have := h.vn.2; omega)), fun k hk => ?_, h2, h.vn, fun j i' hj => ?_, fun i' hi' hni => ?_, fun q hq => ?_, ?_, fun i' hi' => ?_, ?_, fun j i' hj => ?_, fun q hq => ?_, fun q hq => ?_, fun c hc i' hi' => ?_, h.q1⟩, by simp, hlast.symm, ⟨[i], rfl⟩, fun k hk => List.mem_cons_of_mem _ (List.mem_append_right _ hk), fun k hk => ?_, h3⟩
    · rcases List.mem_cons.1 hk with rfl | hk
      · exact ⟨by omega, by omega, by omega⟩
      · rcases List.mem_append.1 hk with hk | hk
        · have := (h7 k hk).1
          exact ⟨by omega, by omega, by omega⟩
        · exact h.g k hk
    · rw [getM_put]
      by_cases hj' : j < idx.length
      · rw [List.getElem?_append_left hj'] at hj
        have hne : ¬ some (fbA fb i) = some (fbA fb i') := fun e => by
          injection e with e
          have : i = i' := Decidable.byContradiction fun hne => hfs.ne hil (h.il i' (List.mem_of_getElem? hj)) hne e
          exact hn (this ▸ List.mem_of_getElem? hj)
        rw [if_neg hne, hlt' j hj']
        exact h.t1 j i' hj
      · have hjl := (List.getElem?_eq_some_iff.1 hj).1
        simp at hjl
        obtain rfl : j = idx.length := by omega
        rw [List.getElem?_append_right (Nat.le_refl _), Nat.sub_self] at hj
        simp at hj
        subst hj
        rw [if_pos rfl, hlast]
    · rw [getM_put]
      have hne : ¬ some (fbA fb i) = some (fbA fb i') := fun e => by
        injection e with e
        have : i = i' := Decidable.byContradiction fun hne => hfs.ne hil hi' hne e
        exact hni (by rw [← this]; simp)
      rw [if_neg hne]
      exact h.t2 i' hi' (fun hm => hni (List.mem_append_left _ hm))
    · unfold putM at hq
      split at hq
      · obtain ⟨r, hr, e⟩ := List.mem_map.1 hq
        split at e
        · exact ⟨i, hil, by rw [← e]⟩
        · rw [← e]; exact h.mkk r hr
      · rcases List.mem_append.1 hq with h9 | h9
        · exact h.mkk q h9
        · simp at h9; exact ⟨i, hil, by rw [h9]⟩
    · rw [List.nodup_append]
      exact ⟨h.nd, by simp, fun a ha b hb => by simp at hb; subst hb; exact fun e => hn (e ▸ ha)⟩
    · rcases List.mem_append.1 hi' with h9 | h9
      · exact h.il i' h9
      · simp at h9; subst h9; exact hil
    · simp [h.fl]
    · show (D'.files ++ [f])[j]? = _
      by_cases hj' : j < idx.length
      · rw [List.getElem?_append_left hj'] at hj
        rw [List.getElem?_append_left (by rw [h.fl]; exact hj')]
        exact h.ff j i' hj
      · have hjl := (List.getElem?_eq_some_iff.1 hj).1
        simp at hjl
        obtain rfl : j = idx.length := by omega
        rw [List.getElem?_append_right (Nat.le_refl _), Nat.sub_self] at hj
        simp at hj
        subst hj
        rw [← h.fl, List.getElem?_append_right (Nat.le_refl _), Nat.sub_self, hi]
        rfl
    · have := h.nr q hq; simp; omega
    · have := h.sr q hq; simp; omega
    · have := h.cr c hc i' hi'; simp; omega
    · rcases List.mem_cons.1 hk with rfl | hk
      · exact .inr h4
      · rcases List.mem_append.1 hk with hk | hk
        · exact .inr (h7 k hk).1
        · exact .inl hk
/-- names put -/
theorem CpI.nowPut (h : CpI w0 w vb tb po fb D D' idx fb' nb sb A' m' c' G' mt) (hfb : ∀ i, i < D.files.length → fbA fb i < w0.heap.size) (hk : Kept [nb] w w') {l : List (Bs × Nat)} (hm : MapB ekS (evF fb') w' nb l) (hr : ∀ q ∈ l, q.2 < idx.length) : CpI w0 w' vb tb po fb D { D' with now := l } idx fb' nb sb A' m' c' G' mt := by
  obtain ⟨g1, g2, g3⟩ := h.g nb h.x.inn
  refine ⟨h.x.nows hk hm, h.k.trans hk (fun i hi => .inr (by simp at hi; omega)), h.g, h.v.kept hk (by simpa using fun e => g2 e.symm) (by simpa using fun e => g3 e.symm) (fun q hq g hg hm => ?_), h.vn, h.t1, h.t2, h.mkk, h.nd, h.il, h.fl, h.ff, hr, h.sr, h.cr, h.q1⟩
  obtain ⟨i, hi, e⟩ := h.mkk q hq
  rw [hg] at e
  injection e with e
  simp at hm
  have := hfb i hi
  omega
theorem CpI.surPut (h : CpI w0 w vb tb po fb D D' idx fb' nb sb A' m' c' G' mt) (hfb : ∀ i, i < D.files.length → fbA fb i < w0.heap.size) (hk : Kept [sb] w w') {l : List (Bs × Nat)} (hm : MapB ekS (evF fb') w' sb l) (hr : ∀ q ∈ l, q.2 < idx.length) : CpI w0 w' vb tb po fb D { D' with sur := l } idx fb' nb sb A' m' c' G' mt := by
  obtain ⟨g1, g2, g3⟩ := h.g sb h.x.ins
  refine ⟨h.x.surs hk hm, h.k.trans hk (fun i hi => .inr (by simp at hi; omega)), h.g, h.v.kept hk (by simpa using fun e => g2 e.symm) (by simpa using fun e => g3 e.symm) (fun q hq g hg hm => ?_), h.vn, h.t1, h.t2, h.mkk, h.nd, h.il, h.fl, h.ff, h.nr, hr, h.cr, h.q1⟩
  obtain ⟨i, hi, e⟩ := h.mkk q hq
  rw [hg] at e
  injection e with e
  simp at hm
  have := hfb i hi
  omega
/-- changes put behind -/
theorem CpI.chPut {wa w8 : World} {A8 : Option Addr} {m8 c8 : Nat} (h : CpI w0 w vb tb po fb D D' idx fb' nb sb A' m' c' G' mt) (hfb : ∀ i, i < D.files.length → fbA fb i < w0.heap.size) (ha : Kept [] w wa) (hk : Kept (rowOf (.slice A' m' c')) wa w8) {l : List ChD}
    (ho : Own w8 76 4 (.slice A8 m8 c8) l.length (chsC fb' l)) (hr : ∀ k ∈ rowOf (.slice A8 m8 c8), k ∈ rowOf (.slice A' m' c') ∨ wa.heap.size ≤ k) (hc : ∀ c ∈ l, ∀ i, c.f = some i → i < idx.length) :
    CpI w0 (w8.setCell ⟨po, 3, none⟩ (.slice A8 m8 c8)) vb tb po fb D { D' with ch := l } idx fb' nb sb A8 m8 c8 (rowOf (.slice A8 m8 c8) ++ G') mt ∧ Kept G' w (w8.setCell ⟨po, 3, none⟩ (.slice A8 m8 c8)) := by
  have hx := (h.x.go ha).rows hk ho hr
  have k2 : Kept G' w (w8.setCell ⟨po, 3, none⟩ (.slice A8 m8 c8)) := ((ha.mono (by simp) : Kept G' w wa).trans hk (fun i hi => .inl (h.x.inr i hi))).setCell (.inl h.x.inp) _
  have hmk : ∀ q ∈ mt, ∀ g, q.1 = some g → g ∉ G' := fun q hq g hg hm => by
    obtain ⟨i, hi, e⟩ := h.mkk q hq
    rw [hg] at e
    injection e with e
    have h1 := hfb i hi
    have h2 := (h.g g hm).1
    omega
  refine ⟨⟨hx, h.k.trans k2 (fun i hi => .inr (h.g i hi).1), fun k hk' => ?_, h.v.kept k2 (fun hm => (h.g vb hm).2.1 rfl) (fun hm => (h.g tb hm).2.2 rfl) hmk, h.vn, h.t1, h.t2, h.mkk, h.nd, h.il, h.fl, h.ff, h.nr, h.sr, hc, h.q1⟩, k2⟩
  rcases List.mem_append.1 hk' with h9 | h9
  · rcases hr k h9 with h8 | h8
    · exact h.g k (h.x.inr k h8)
    · have h1 := h.v.var.lt
      have h2 := h.v.map.lt
      have h3 := ha.size
      have h4 := h.k.size
      exact ⟨by omega, by omega, by omega⟩
  · exact h.g k h9
end
def pk (idx : List Nat) (q : Bs × Nat) : Bs × Nat := (q.1, idx.getD q.2 0)
theorem pk_ext {idx more : List Nat} {l : List (Bs × Nat)} (hr : ∀ q ∈ l, q.2 < idx.length) : l.map (pk (idx ++ more)) = l.map (pk idx) := by
  apply List.map_congr_left
  intro q hq
  unfold pk
  have := hr q hq
  rw [List.getD_eq_getElem?_getD, List.getD_eq_getElem?_getD, List.getElem?_append_left this]
theorem cp_step {N cur left left' : List (Bs × Nat)} {idx idx2 more : List Nat} {x : Bs} {qi j : Nat} (hp : N.Perm (cur.map (pk idx) ++ left)) (hn : (N.map (·.1)).Nodup) (hl : left.Perm ((x, qi) :: left')) (hr : ∀ q ∈ cur, q.2 < idx.length) (e : idx2 = idx ++ more) (hj : idx2[j]? = some qi) :
    N.Perm ((putM cur x j).map (pk idx2) ++ left') ∧ ∀ q ∈ putM cur x j, q.2 < idx2.length := by
  have hp2 : N.Perm (cur.map (pk idx) ++ ((x, qi) :: left')) := hp.trans (List.Perm.append_left _ hl)
  have hk := (hp2.map (·.1)).nodup_iff.1 hn
  rw [List.map_append, List.map_cons, List.nodup_append] at hk
  have hnone : getM cur x = none := getM_none.2 (fun q hq e => by
    refine hk.2.2 q.1 ?_ x (by simp) e
    rw [List.map_map]
    exact List.mem_map.2 ⟨q, hq, rfl⟩)
  have hput : putM cur x j = cur ++ [(x, j)] := by unfold putM; rw [hnone]; rfl
  have hjl := (List.getElem?_eq_some_iff.1 hj).1
  rw [hput]
  refine ⟨?_, fun q hq => ?_⟩
  · have e1 : (cur ++ [(x, j)]).map (pk idx2) ++ left' = cur.map (pk idx) ++ ((x, qi) :: left') := by
      rw [List.map_append, e, pk_ext hr, ← e, List.append_assoc]
      unfold pk
      simp [hj]
    rw [e1]
    exact hp2
  · rcases List.mem_append.1 hq with h1 | h1
    · have := hr q h1
      rw [e, List.length_append]; omega
    · simp at h1; rw [h1]; exact hjl
/-- a change and its copy -/
def ChR (idx : List Nat) (c c' : ChD) : Prop := c'.kind = c.kind ∧ c'.name = c.name ∧ c'.dst = c.dst ∧ ((c.f = none ∧ c'.f = none) ∨ ∃ i j, c.f = some i ∧ c'.f = some j ∧ idx[j]? = some i)
theorem ChR.ext {idx more : List Nat} {c c' : ChD} (h : ChR idx c c') : ChR (idx ++ more) c c' := by
  obtain ⟨h1, h2, h3, h4⟩ := h
  refine ⟨h1, h2, h3, h4.imp id (fun ⟨i, j, e1, e2, e3⟩ => ⟨i, j, e1, e2, ?_⟩)⟩
  rw [List.getElem?_append_left (List.getElem?_eq_some_iff.1 e3).1]
  exact e3
/-- the copy of a disk -/
structure CopyR (D D' : DkD) (idx : List Nat) : Prop where
  nd : idx.Nodup
  il : ∀ i ∈ idx, i < D.files.length
  fl : D'.files.length = idx.length
  ff : ∀ (j i : Nat), idx[j]? = some i → D'.files[j]? = D.files[i]?
  now : D.now.Perm (D'.now.map (pk idx))
  sur : D.sur.Perm (D'.sur.map (pk idx))
  nr : ∀ q ∈ D'.now, q.2 < idx.length
  sr : ∀ q ∈ D'.sur, q.2 < idx.length
  chl : D'.ch.length = D.ch.length
  ch : ∀ (j : Nat) (c c' : ChD), D.ch[j]? = some c → D'.ch[j]? = some c' → ChR idx c c'
  q1 : D'.quota = D.quota ∧ D'.ops = D.ops ∧ D'.fail = D.fail
def CopyPost (w : World) (D : DkD) (e : Ending) (w' : World) : Prop := ∃ po G' D' idx, e = .returned (.pointer (some ⟨po, 0, none⟩)) ∧ DkH w' G' po D' ∧ Kept [] w w' ∧ (∀ k ∈ G', w.heap.size ≤ k) ∧ CopyR D D' idx
end Go.Proofs.Ythdjdfdefibepaa
