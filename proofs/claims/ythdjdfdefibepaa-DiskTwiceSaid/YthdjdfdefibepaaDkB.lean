
/-
  The disk in memory; its small functions.
-/
import Derived.Test.YthdjdfdefibepaaDkA
import Derived.BigQuiet
import Derived.Deep.DeepCutAuto
import Derived.Deep.RegionWith
namespace Go.Proofs.Ythdjdfdefibepaa
open Go.RowKit Go.ChangeShapes Go.WideShapes Go.ChangeAt Go.Deep Go.MapKept
set_option linter.unusedVariables false

/-- a disk in block p, all that it owns in blocks of G -/
structure DkX (w : World) (G : List Nat) (p : Nat) (fb : List Nat) (D : DkD) (bn bs : Nat) (A : Option Addr) (m c : Nat) : Prop where
  blk : Blk w p 64 #[.int .i64 D.quota, .map (some bn), .map (some bs), .slice A m c, .int .i64 D.ops, .int .i64 D.fail]
  now : MapB ekS (evF fb) w bn D.now
  sur : MapB ekS (evF fb) w bs D.sur
  ne : bn ≠ bs
  row : Own w 76 4 (.slice A m c) D.ch.length (chsC fb D.ch)
  fs : FsAt w G fb D.files
  inn : bn ∈ G
  ins : bs ∈ G
  inp : p ∈ G
  inr : ∀ k ∈ rowOf (.slice A m c), k ∈ G
  lt : ∀ k ∈ G, k < w.heap.size
section
variable {w w' : World} {G S : List Nat} {p : Nat} {fb : List Nat} {D : DkD} {bn bs : Nat} {A : Option Addr} {m c : Nat}
theorem FsAt.far {fs : List FlE} (h : FsAt w G fb fs) (hk : Kept S w w') (hS : ∀ k ∈ S, k ∉ G) : FsAt w' G fb fs := by
  obtain ⟨h1, h2, h3, sl, h4, h5, h6, h7⟩ := h
  refine ⟨h1, h2, h3, sl, h4, fun i g v f ha hb hc => ?_, h6, h7⟩
  obtain ⟨q1, q2⟩ := h5 i g v f ha hb hc
  exact ⟨q1.kept hk (fun hm => hS g hm (h3 g (List.mem_of_getElem? ha))), q2.kept hk (fun k hk' hm => hS k hm (h7 v (List.mem_of_getElem? hb) k hk'))⟩
theorem DkX.far (h : DkX w G p fb D bn bs A m c) (hk : Kept S w w') (hS : ∀ k ∈ S, k ∉ G) : DkX w' G p fb D bn bs A m c :=
  ⟨h.blk.kept hk (fun hm => hS _ hm h.inp), h.now.kept hk (fun hm => hS _ hm h.inn), h.sur.kept hk (fun hm => hS _ hm h.ins), h.ne, h.row.kept hk (fun k hk' hm => hS k hm (h.inr k hk')), h.fs.far hk hS, h.inn, h.ins, h.inp, h.inr, fun k hk' => Nat.lt_of_lt_of_le (h.lt k hk') hk.size⟩
theorem DkX.go (h : DkX w G p fb D bn bs A m c) (hk : Kept [] w w') : DkX w' G p fb D bn bs A m c := h.far hk (by simp)
theorem DkX.mono {G' : List Nat} (h : DkX w G p fb D bn bs A m c) (hg : ∀ k ∈ G, k ∈ G') (hl : ∀ k ∈ G', k < w.heap.size) : DkX w G' p fb D bn bs A m c :=
  ⟨h.blk, h.now, h.sur, h.ne, h.row, h.fs.mono hg, hg _ h.inn, hg _ h.ins, hg _ h.inp, fun k hk => hg k (h.inr k hk), hl⟩
/-- the disk's own cells written: its numbers -/
theorem DkX.nums (h : DkX w G p fb D bn bs A m c) (hk : Kept [p] w w') {o f : Int} (hb : Blk w' p 64 #[.int .i64 D.quota, .map (some bn), .map (some bs), .slice A m c, .int .i64 o, .int .i64 f]) : DkX w' G p fb { D with ops := o, fail := f } bn bs A m c := by
  have hS : ∀ k ∈ [p], Othr w k := fun k hk' => by
    obtain rfl : k = p := by simpa using hk'
    exact Othr.of_blk h.blk (by decide) (by decide)
  exact ⟨hb, h.now.kept hk (by simpa using fun e => h.now.ne_blk h.blk e), h.sur.kept hk (by simpa using fun e => h.sur.ne_blk h.blk e), h.ne, h.row.kept hk (fun k hk' hm => by
    obtain rfl : k = p := by simpa using hm
    exact h.row.ne_blk h.blk (by decide) hk'), h.fs.kept hk hS, h.inn, h.ins, h.inp, h.inr, fun k hk' => Nat.lt_of_lt_of_le (h.lt k hk') hk.size⟩
/-- what it answers to look-ups -/
theorem DkX.look (h : DkX w G p fb D bn bs A m c) (x : Bs) : (Instr.lookup 61 (.map (some bn)) (.string (strOf x)) false).run Try.prog w = .ok (.pointer ((getM D.now x).map fun i => ⟨fbA fb i, 0, none⟩)) w := by
  have := h.now.look ekS_fam Try.underlying61 (z := .pointer none) (by have h1 := Try.underlying69; go_simp) false x
  have e : ((getM D.now x).map (evF fb)).getD (.pointer none) = .pointer ((getM D.now x).map fun i => ⟨fbA fb i, 0, none⟩) := by
    cases getM D.now x <;> rfl
  rw [if_neg (by simp), e] at this
  exact this
end
set_option maxHeartbeats 1600000 in
theorem begin_any {w : World} {G : List Nat} {p : Nat} {fb : List Nat} {D : DkD} {bn bs : Nat} {A : Option Addr} {m c : Nat} (h : DkX w G p fb D bn bs A m c) (h0 : 0 ≤ D.ops) (ho : D.ops ≤ 1000000) :
    Calls Try.prog 38 #[.pointer (some ⟨p, 0, none⟩)] w fun e w' => e = .returned (.int .i64 (begD D).1) ∧ DkX w' G p fb (begD D).2 bn bs A m c ∧ Kept [p] w w' := by
  have hc := h.blk.cell
  have hf := h.blk.frozen
  have hl := h.blk.lt
  have H := Lib.hid h
  have iw : IntKind.i64.wrap (D.ops + 1) = D.ops + 1 := IntWalk.i64_in _ (by omega)
  have B1 := Lib.hid (show Blk (w.setCell ⟨p, 4, none⟩ (.int .i64 (D.ops + 1))) p 64 #[.int .i64 D.quota, .map (some bn), .map (some bs), .slice A m c, .int .i64 (D.ops + 1), .int .i64 D.fail] from h.blk.set 4 _)
  have K1 := Lib.hid ((Kept.refl [p] w).setCell (p := ⟨p, 4, none⟩) (.inl (by simp)) (.int .i64 (D.ops + 1)))
  clear h
  go_enter Try.func38, Try.ntmps38
  go_upto_region 4 with fail
  clear hc hf
  generalize w.setCell ⟨p, 4, none⟩ (.int .i64 (D.ops + 1)) = w1 at *
  have hc := B1.out.cell
  have hf := B1.out.frozen
  have hl1 := B1.out.lt
  go_quiet (fail)
  clear hc hf hl1
  have B2 := Lib.hid (B1.out.kept ((Kept.refl [] w1).drewN nq) (by simp))
  have K2 := Lib.hid (K1.out.trans ((Kept.refl [] w1).drewN nq) (by simp))
  generalize w1.drewN nq = w2 at *
  have hc := B2.out.cell
  have hf := B2.out.frozen
  have hl2 := B2.out.lt
  by_cases he : D.ops + 1 = D.fail
  · have hb : begD D = (8, { D with ops := D.ops + 1, fail := 0 }) := by unfold begD; rw [if_pos he]
    have HB := Lib.hid hb
    have i1 : (D.ops + 1 == D.fail) = true := by simp [he]
    clear hb he
    go_wp2
    go_ret
    rw [HB.out]
    exact ⟨rfl, H.out.nums (K2.out.setCell (.inl (by simp)) _) (B2.out.set 5 _), K2.out.setCell (.inl (by simp)) _⟩
  · have hb : begD D = (0, { D with ops := D.ops + 1 }) := by unfold begD; rw [if_neg he]
    have HB := Lib.hid hb
    have i1 : (D.ops + 1 == D.fail) = false := by simp [he]
    clear hb he
    go_wp2
    go_ret
    rw [HB.out]
    exact ⟨rfl, H.out.nums K2.out B2.out, K2.out⟩
theorem strOf_size (s : Bs) : (strOf s).size = s.length := by simp [strOf, ByteArray.size]
theorem named_any (w : World) (s : Bs) (hl : s.length ≤ 1000000) : Calls Try.prog 39 #[.string (strOf s)] w fun e w' => e = .returned (.bool (namedD s)) ∧ w = w' := by
  have hs := strOf_size s
  by_cases h1 : 1 ≤ s.length
  · by_cases h2 : s.length ≤ 16
    · have hn : namedD s = true := by unfold namedD; simp [h1, h2]
      rw [hn]
      have i1 : (1 : Int) ≤ (s.length : Int) := by omega
      have i2 : (s.length : Int) ≤ 16 := by omega
      go_enter Try.func39, Try.ntmps39
      go_wp2
      go_ret
      exact ⟨rfl, rfl⟩
    · have hn : namedD s = false := by unfold namedD; simp [h2]
      rw [hn]
      have i1 : (1 : Int) ≤ (s.length : Int) := by omega
      have i2 : ¬ (s.length : Int) ≤ 16 := by omega
      go_enter Try.func39, Try.ntmps39
      go_wp2
      go_ret
      exact ⟨rfl, rfl⟩
  · have hn : namedD s = false := by unfold namedD; simp [h1]
    rw [hn]
    have i1 : ¬ (1 : Int) ≤ (s.length : Int) := by omega
    go_enter Try.func39, Try.ntmps39
    go_wp2
    go_ret
    exact ⟨rfl, rfl⟩
theorem lenF_get {fs : List FlE} {i : Nat} {f : FlE} (h : fs[i]? = some f) : lenF fs i = f.b.length := by unfold lenF; rw [h]; rfl
theorem lenF_le {fs : List FlE} (h : ∀ f ∈ fs, f.b.length ≤ 1048576) (i : Nat) : lenF fs i ≤ 1048576 := by
  unfold lenF
  cases hf : fs[i]? with
  | none => simp
  | some f => simpa using h f (List.mem_of_getElem? hf)
theorem sum_len_le {fs : List FlE} (h : ∀ f ∈ fs, f.b.length ≤ 1048576) : ∀ l : List (Bs × Nat), (l.map fun q => lenF fs q.2).sum ≤ 1048576 * l.length
  | [] => by simp
  | q :: l => by
    have h1 := sum_len_le h l
    have h2 := lenF_le h q.2
    simp only [List.map_cons, List.sum_cons, List.length_cons]
    omega
set_option maxRecDepth 100000 in
set_option maxHeartbeats 1600000 in
theorem Size_any {w : World} {G : List Nat} {p : Nat} {fb : List Nat} {D : DkD} {bn bs : Nat} {A : Option Addr} {m c : Nat} (h : DkX w G p fb D bn bs A m c) (ok : OkI D) (hn : D.now.length ≤ 1000000) :
    Calls Try.prog 16 #[.pointer (some ⟨p, 0, none⟩)] w fun e w' => e = .returned (.int .i64 (sizeD D : Nat)) ∧ Kept [] w w' := by
  have hc := h.blk.cell
  have hf := h.blk.frozen
  have hl := h.blk.lt
  have H := Lib.hid h
  have SL := Lib.hid (fun f hf => (ok.sure f hf).2)
  have BD := Lib.hid (show sizeD D ≤ 1048576 * D.now.length from sum_len_le SL.out _)
  have ID := Lib.hid ok.now
  clear h ok
  go_enter Try.func16, Try.ntmps16
  go_wp2_with (first
    | (at_range
       refine wpList_rangeM w rfl _ 61 rfl Try.underlying61 rfl H.out.now ?_
       intro w1 hr1 hk1 hs1
       have R1 := Lib.hid hr1
       have K1 := Lib.hid hk1
       have hq1 : w1.heap.size = w.heap.size + 1 := hs1
       clear hr1 hk1 hs1))
  go_frame
  go_loopg [3] D.now.length (fun gg s wr => ∃ (left : List (Bs × Nat)) (k : Nat), gg = left.length ∧ s = .int .i64 (k : Nat) ∧ Rng ekS (evF fb) wr bn w.heap.size D.now left ∧ k + (left.map fun q => lenF D.files q.2).sum = sizeD D ∧ (∀ q ∈ left, q.2 < D.files.length) ∧ Kept [] w wr)
  case atStart => exact ⟨D.now, 0, rfl, rfl, R1.out, by rw [Nat.zero_add]; rfl, ID.out, K1.out⟩
  case round =>
    obtain ⟨left, k, rfl, rfl, hrg, hsum, hid, hkw⟩ := hrel
    have KW := Lib.hid hkw
    have HS := Lib.hid hsum
    have HI := Lib.hid hid
    have HR := Lib.hid hrg
    clear hrg hsum hid hkw
    go_wp2_with (first
      | (at_next
         refine wpList_nextM _ rfl _ rfl rfl HR.out ?_ ?_))
    · intro hl0
      subst hl0
      have e : k = sizeD D := by simpa using HS.out
      subst e
      go_wp2
      go_ret
      exact ⟨rfl, KW.out⟩
    · intro x qi left' w2 hp hrg2 hk2 hs2 hen
      have hqi : qi < D.files.length := HI.out (x, qi) (hp.mem_iff.2 (by simp))
      have K2 := Lib.hid (KW.out.trans hk2 (fun i hi => .inr (by simp at hi; omega)))
      obtain ⟨f, hf⟩ : ∃ f, D.files[qi]? = some f := ⟨_, List.getElem?_eq_getElem hqi⟩
      obtain ⟨A2, c2, _, _, hb, _, _⟩ := ((H.out.go K2.out).fs).get hf
      have hfc := hb.cell
      have hfl := hb.lt
      have HL := Lib.hid (show k + f.b.length + (left'.map fun q => lenF D.files q.2).sum = sizeD D by
        have h1 := HS.out
        rw [(hp.map _).sum_nat] at h1
        simp only [List.map_cons, List.sum_cons, lenF_get hf] at h1
        omega)
      have hle : k + f.b.length ≤ 1048576000000 := by
        have := HL.out; have := BD.out; omega
      have iw : IntKind.i64.wrap ((k : Int) + (f.b.length : Int)) = (k : Int) + (f.b.length : Int) := IntWalk.i64_in _ (by omega)
      have R2 := Lib.hid hrg2
      have HP := Lib.hid hp
      have HE : (Instr.entry (.pointer (some ⟨w.heap.size, 0, none⟩))).run Try.prog w2 = .ok (.tuple #[.string (strOf x), .pointer (some ⟨fbA fb qi, 0, none⟩)]) w2 := hen
      have e1 : ekS x = .string (strOf x) := rfl
      have e2 : evF fb qi = .pointer (some ⟨fbA fb qi, 0, none⟩) := rfl
      rw [e1, e2]
      clear hp hrg2 hk2 hs2 hen hb hf e1 e2
      generalize fbA fb qi = g at *
      go_wp2
      go_roundg left'.length
      case measure => have := HP.out.length_eq; simp at this; omega
      case rel => exact ⟨left', k + f.b.length, rfl, by go_num, R2.out, HL.out, fun r hr => HI.out r (HP.out.mem_iff.2 (by simp [hr])), K2.out⟩
end Go.Proofs.Ythdjdfdefibepaa
