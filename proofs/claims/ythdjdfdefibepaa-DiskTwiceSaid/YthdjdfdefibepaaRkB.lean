
/-
  The document's disk: names taken out, put in; a change done.
-/
import Derived.Test.YthdjdfdefibepaaArr
import Derived.Test.YthdjdfdefibepaaDkAB
import Derived.Deep.RegionWith
section
namespace Go.Proofs.Ythdjdfdefibepaa
open Go.RowKit Go.ChangeShapes Go.WideShapes Go.ChangeAt Go.Deep Go.MapKept
set_option linter.unusedVariables false

/-- a change, of the document -/
structure McD where
  src : Bs
  dst : Bs
  f : Nat
structure RkD where
  files : List FlE
  now : List (Bs × Nat)
  sur : List (Bs × Nat)
  ch : List McD
  quota : Int
  n : Int
  fail : Int
def wiM (l : List (Bs × Nat)) (x : Bs) (f : Nat) : List (Bs × Nat) :=
  ((delM l x).takeWhile fun q => decide (q.1 < x)) ++ ([(x, f)] ++ (delM l x).dropWhile fun q => decide (q.1 < x))
def turM (l : List (Bs × Nat)) (c : McD) : List (Bs × Nat) :=
  let l1 := if c.src = [] then l else delM l c.src
  if c.dst = [] then l1 else wiM l1 c.dst c.f
def opM (M : RkD) : Bool × RkD := if 0 < M.fail then (decide (M.fail - 1 = 0), { M with n := M.n + 1, fail := M.fail - 1 }) else (false, { M with n := M.n + 1 })
def sizM (M : RkD) : Nat := (M.now.map fun q => lenF M.files q.2).sum
def fidx (o : Option Nat) : Int := match o with | some i => (i : Nat) | none => -1

def NmDec (w : World) (G : List Nat) (cs : List Value) (q : Bs × Nat) : Prop := cs = [.string (strOf q.1), .int .i64 (q.2 : Nat)]
theorem NmOk : DecOk 2 NmDec where
  len := by rintro w G cs f rfl; rfl
  one := by rintro w G cs f rfl u hu; simp at hu; rcases hu with rfl | rfl <;> rfl
  kept := by rintro w w' G S cs f h hk hd; exact h
  mono := by rintro w G G' cs f h hg; exact h
def McDec (w : World) (G : List Nat) (cs : List Value) (q : McD) : Prop := cs = [.string (strOf q.src), .string (strOf q.dst), .int .i64 (q.f : Nat)]
theorem McOk : DecOk 3 McDec where
  len := by rintro w G cs f rfl; rfl
  one := by rintro w G cs f rfl u hu; simp at hu; rcases hu with rfl | rfl | rfl <;> rfl
  kept := by rintro w w' G S cs f h hk hd; exact h
  mono := by rintro w G G' cs f h hg; exact h
/-- a file's two cells: where its bytes lie, how many are sure -/
structure FvD where
  A : Option Addr
  m : Nat
  c : Nat
  sure : Nat
def FvDec (w : World) (G : List Nat) (cs : List Value) (q : FvD) : Prop := cs = [.slice q.A q.m q.c, .int .i64 (q.sure : Nat)]
theorem FvOk : DecOk 2 FvDec where
  len := by rintro w G cs f rfl; rfl
  one := by rintro w G cs f rfl u hu; simp at hu; rcases hu with rfl | rfl <;> rfl
  kept := by rintro w w' G S cs f h hk hd; exact h
  mono := by rintro w G G' cs f h hg; exact h
theorem info_nm : (Try.prog.info? 89).map (fun i => (i.zero, i.size, i.bytes)) = some (some (.agg #[.string .empty, .int .i64 0]), 2, 24) := by kernel_rfl
theorem elem_nm : Elem Try.prog 84 89 2 24 := Elem.mk' Try.underlying84 info_nm rfl (by omega)
theorem info_mc : (Try.prog.info? 99).map (fun i => (i.zero, i.size, i.bytes)) = some (some (.agg #[.string .empty, .string .empty, .int .i64 0]), 3, 40) := by kernel_rfl
theorem elem_mc : Elem Try.prog 85 99 3 40 := Elem.mk' Try.underlying85 info_mc rfl (by omega)
theorem info_fv : (Try.prog.info? 96).map (fun i => (i.zero, i.size, i.bytes)) = some (some (.agg #[.slice none 0 0, .int .i64 0]), 2, 32) := by kernel_rfl
theorem elem_fv : Elem Try.prog 83 96 2 32 := Elem.mk' Try.underlying83 info_fv rfl (by omega)
abbrev NmV (W w : World) (v : Value) (l : List (Bs × Nat)) : Prop := LV NmDec 89 2 W w v l
abbrev McV (W w : World) (v : Value) (l : List McD) : Prop := LV McDec 99 3 W w v l
abbrev FvV (W w : World) (v : Value) (l : List FvD) : Prop := LV FvDec 96 2 W w v l
abbrev NmArr (w : World) (G : List Nat) (v : Value) (l : List (Bs × Nat)) : Prop := ArrOf w G 2 (fun w => NmDec w G) v l
abbrev McArr (w : World) (G : List Nat) (v : Value) (l : List McD) : Prop := ArrOf w G 3 (fun w => McDec w G) v l
abbrev FvArr (w : World) (G : List Nat) (v : Value) (l : List FvD) : Prop := ArrOf w G 2 (fun w => FvDec w G) v l
section
variable {w w' W : World} {G G' S : List Nat} {v : Value} {A : Option Addr} {m c : Nat}
theorem NmArr.kept {l : List (Bs × Nat)} (h : NmArr w G v l) (hk : Kept S w w') (hd : ∀ k ∈ G, k ∉ S) : NmArr w' G v l := ArrOf.kept h hk hd (fun cs a h => h)
theorem McArr.kept {l : List McD} (h : McArr w G v l) (hk : Kept S w w') (hd : ∀ k ∈ G, k ∉ S) : McArr w' G v l := ArrOf.kept h hk hd (fun cs a h => h)
theorem FvArr.kept {l : List FvD} (h : FvArr w G v l) (hk : Kept S w w') (hd : ∀ k ∈ G, k ∉ S) : FvArr w' G v l := ArrOf.kept h hk hd (fun cs a h => h)
theorem arr_lens {α : Type} {n : Nat} {Dec : World → List Value → α → Prop} {l : List α} (h : ArrOf w G n Dec (.slice A m c) l) : l.length = m ∧ m ≤ c ∧ c ≤ maxLen ∧ (A = none → m = 0 ∧ c = 0) := by
  obtain ⟨A', m', c', e, h1, h2, h3, h4, h5⟩ := h
  injection e with e1 e2 e3
  subst e1 e2 e3
  exact ⟨h1, h2, h3, h4⟩
theorem arr_form {α : Type} {n : Nat} {Dec : World → List Value → α → Prop} {l : List α} (h : ArrOf w G n Dec v l) : ∃ A c, v = .slice A l.length c := by
  obtain ⟨A, m, c, e, h1, _⟩ := h
  subst h1
  exact ⟨A, c, e⟩
theorem arr_at {α : Type} {n : Nat} {Dec : World → List Value → α → Prop} {l : List α} (h : ArrOf w G n Dec (.slice A m c) l) {k : Nat} {x : α} (hx : l[k]? = some x) :
    ∃ g o cs, A = some ⟨g, o, none⟩ ∧ g < w.heap.size ∧ g ∈ G ∧ Dec w cs x ∧ ∀ j, j < n → w.cell? ⟨g, o + k * n + j, none⟩ = cs[j]? := by
  obtain ⟨A', m', c', e, h1, h2, h3, h4, h5⟩ := h
  injection e with e1 e2 e3
  subst e1 e2 e3
  obtain ⟨g, o, rfl, hg, hlt, hc⟩ := h5 (by rintro rfl; simp at hx)
  obtain ⟨cs, _, hd, hcell⟩ := hc k x hx
  exact ⟨g, o, cs, rfl, hlt, hg, hd, fun j hj => by
    have := hcell j hj
    rwa [← Nat.add_assoc] at this⟩
theorem NmArr.at {l : List (Bs × Nat)} (h : NmArr w G (.slice A m c) l) {k : Nat} {x : Bs × Nat} (hx : l[k]? = some x) :
    ∃ g o, A = some ⟨g, o, none⟩ ∧ g < w.heap.size ∧ g ∈ G ∧ w.cell? ⟨g, o + k * 2, none⟩ = some (.string (strOf x.1)) ∧ w.cell? ⟨g, o + k * 2 + 1, none⟩ = some (.int .i64 (x.2 : Nat)) := by
  obtain ⟨g, o, cs, e, h1, h2, rfl, hc⟩ := arr_at h hx
  exact ⟨g, o, e, h1, h2, hc 0 (by omega), hc 1 (by omega)⟩
theorem McArr.at {l : List McD} (h : McArr w G (.slice A m c) l) {k : Nat} {x : McD} (hx : l[k]? = some x) :
    ∃ g o, A = some ⟨g, o, none⟩ ∧ g < w.heap.size ∧ g ∈ G ∧ w.cell? ⟨g, o + k * 3, none⟩ = some (.string (strOf x.src)) ∧ w.cell? ⟨g, o + k * 3 + 1, none⟩ = some (.string (strOf x.dst)) ∧ w.cell? ⟨g, o + k * 3 + 2, none⟩ = some (.int .i64 (x.f : Nat)) := by
  obtain ⟨g, o, cs, e, h1, h2, rfl, hc⟩ := arr_at h hx
  exact ⟨g, o, e, h1, h2, hc 0 (by omega), hc 1 (by omega), hc 2 (by omega)⟩
theorem FvArr.at {l : List FvD} (h : FvArr w G (.slice A m c) l) {k : Nat} {x : FvD} (hx : l[k]? = some x) :
    ∃ g o, A = some ⟨g, o, none⟩ ∧ g < w.heap.size ∧ g ∈ G ∧ w.cell? ⟨g, o + k * 2, none⟩ = some (.slice x.A x.m x.c) ∧ w.cell? ⟨g, o + k * 2 + 1, none⟩ = some (.int .i64 (x.sure : Nat)) := by
  obtain ⟨g, o, cs, e, h1, h2, rfl, hc⟩ := arr_at h hx
  exact ⟨g, o, e, h1, h2, hc 0 (by omega), hc 1 (by omega)⟩
/-- a row just made, whose elements are plain: it reads in its own block -/
theorem lv_arr {α : Type} {n : Nat} {e : TypeId} {Dec : World → List Nat → List Value → α → Prop} (D : DecOk n Dec) (hD : ∀ {w w' : World} {G G' : List Nat} {cs : List Value} {a : α}, Dec w G cs a → Dec w' G' cs a) {l : List α} (h : LV Dec e n W w v l) :
    ArrOf w (rowOf v) n (fun w => Dec w (rowOf v)) v l ∧ (∀ k ∈ rowOf v, W.heap.size ≤ k ∧ k < w.heap.size) ∧ Kept [] W w := by
  obtain ⟨css, G, h1, h2, h3, h4, h5⟩ := h
  have hx : LVx Dec e n W w v l css [] := ⟨h1, h2, ⟨h3.1, fun i cs a q1 q2 => hD (h3.2 i cs a q1 q2)⟩, by simp, h5⟩
  have ha := hx.arr D
  exact ⟨ha, fun k hk => ⟨h2 k hk, h1.lt k hk⟩, h5⟩
end

/-- the files' bytes -/
def FbAt (w : World) (G : List Nat) (vs : List FvD) (fs : List FlE) : Prop :=
  vs.length = fs.length ∧ ∀ (i : Nat) (q : FvD) (f : FlE), vs[i]? = some q → fs[i]? = some f → RdB w G (.slice q.A q.m q.c) f.b ∧ q.sure = f.sure
theorem FbAt.kept {w w' : World} {G S : List Nat} {vs : List FvD} {fs : List FlE} (h : FbAt w G vs fs) (hk : Kept S w w') (hd : ∀ k ∈ G, k ∉ S) : FbAt w' G vs fs :=
  ⟨h.1, fun i q f h1 h2 => ⟨(h.2 i q f h1 h2).1.kept hk hd, (h.2 i q f h1 h2).2⟩⟩
theorem FbAt.mono {w : World} {G G' : List Nat} {vs : List FvD} {fs : List FlE} (h : FbAt w G vs fs) (hg : ∀ k ∈ G, k ∈ G') : FbAt w G' vs fs :=
  ⟨h.1, fun i q f h1 h2 => ⟨(h.2 i q f h1 h2).1.mono hg, (h.2 i q f h1 h2).2⟩⟩
/-- the document's disk in block p; what it reads lies in the blocks H -/
structure RkX (w : World) (p : Nat) (H : List Nat) (vs : List FvD) (M : RkD) (A1 : Option Addr) (c1 : Nat) (A2 : Option Addr) (c2 : Nat) (A3 : Option Addr) (c3 : Nat) (A4 : Option Addr) (c4 : Nat) : Prop where
  blk : Blk w p 87 #[.slice A1 M.files.length c1, .slice A2 M.now.length c2, .slice A3 M.sur.length c3, .slice A4 M.ch.length c4, .int .i64 M.quota, .int .i64 M.n, .int .i64 M.fail]
  fv : FvArr w H (.slice A1 M.files.length c1) vs
  nw : NmArr w H (.slice A2 M.now.length c2) M.now
  sr : NmArr w H (.slice A3 M.sur.length c3) M.sur
  cv : McArr w H (.slice A4 M.ch.length c4) M.ch
  fb : FbAt w H vs M.files
  pn : p ∉ H
  lt : ∀ k ∈ H, k < w.heap.size
section
variable {w w' : World} {p : Nat} {H H' S : List Nat} {vs : List FvD} {M : RkD} {A1 A2 A3 A4 : Option Addr} {c1 c2 c3 c4 : Nat}
theorem RkX.far (h : RkX w p H vs M A1 c1 A2 c2 A3 c3 A4 c4) (hk : Kept S w w') (hp : p ∉ S) (hd : ∀ k ∈ H, k ∉ S) : RkX w' p H vs M A1 c1 A2 c2 A3 c3 A4 c4 :=
  ⟨h.blk.kept hk hp, h.fv.kept hk hd, h.nw.kept hk hd, h.sr.kept hk hd, h.cv.kept hk hd, h.fb.kept hk hd, h.pn, fun k hm => Nat.lt_of_lt_of_le (h.lt k hm) hk.size⟩
theorem RkX.go (h : RkX w p H vs M A1 c1 A2 c2 A3 c3 A4 c4) (hk : Kept [] w w') : RkX w' p H vs M A1 c1 A2 c2 A3 c3 A4 c4 := h.far hk (by simp) (by simp)
theorem RkX.mono (h : RkX w p H vs M A1 c1 A2 c2 A3 c3 A4 c4) (hg : ∀ k ∈ H, k ∈ H') (hp : p ∉ H') (hl : ∀ k ∈ H', k < w.heap.size) : RkX w p H' vs M A1 c1 A2 c2 A3 c3 A4 c4 :=
  ⟨h.blk, arr_mono FvOk h.fv hg, arr_mono NmOk h.nw hg, arr_mono NmOk h.sr hg, arr_mono McOk h.cv hg, h.fb.mono hg, hp, hl⟩
end
/-- behind an operation -/
def RkTo (w : World) (p : Nat) (H : List Nat) (M' : RkD) (w' : World) : Prop :=
  ∃ H' vs A1 c1 A2 c2 A3 c3 A4 c4, RkX w' p H' vs M' A1 c1 A2 c2 A3 c3 A4 c4 ∧ Kept [p] w w' ∧ ∀ k ∈ H', k ∈ H ∨ w.heap.size ≤ k

theorem fidx_tail {l : List (Bs × Nat)} {x : Bs} {j : Nat} (h : ∀ q ∈ l.take j, q.1 ≠ x) : getM l x = getM (l.drop j) x := by
  induction j generalizing l with
  | zero => simp
  | succ j ih =>
    cases l with
    | nil => simp
    | cons a l =>
      rw [getM_cons, if_neg (h a (by simp)), List.drop_succ_cons]
      exact ih (fun q hq => h q (by simp [hq]))
set_option maxHeartbeats 1600000 in
theorem rfind_any (w : World) {G : List Nat} {A : Option Addr} {m c : Nat} {l : List (Bs × Nat)} (h : NmArr w G (.slice A m c) l) (x : Bs) :
    Calls Try.prog 64 #[.slice A m c, .string (strOf x)] w fun e w' => e = .returned (.int .i64 (fidx (getM l x))) ∧ Kept [] w w' := by
  obtain ⟨a1, a2, a3, a4⟩ := arr_lens h
  unfold maxLen at a3
  have H := Lib.hid h
  have A1 := Lib.hid a1
  clear h a1 a4
  go_enter Try.func64, Try.ntmps64
  go_wp2
  go_loopg [9] m (fun gg i wr => ∃ j : Nat, j ≤ m ∧ gg = m - j ∧ i = .int .i64 (j : Nat) ∧ (∀ q ∈ l.take j, q.1 ≠ x) ∧ Kept [] w wr)
  case atStart => exact ⟨0, by omega, by omega, rfl, by simp, Kept.refl _ _⟩
  case round =>
    obtain ⟨j, hj, rfl, rfl, hs, hkw⟩ := hrel
    have HS := Lib.hid hs
    have KW := Lib.hid hkw
    clear hs hkw
    by_cases hlt : j < m
    · obtain ⟨q, hq⟩ : ∃ q, l[j]? = some q := ⟨_, List.getElem?_eq_getElem (by rw [A1.out]; exact hlt)⟩
      obtain ⟨g, o, rfl, hg, hgG, d0, d1⟩ := (NmArr.kept H.out KW.out (by simp)).at hq
      have i0 : (0 : Int) ≤ (j : Int) := by omega
      have i1 : (j : Int) < (m : Int) := by omega
      have iw : IntKind.i64.wrap ((j : Int) + 1) = (j : Int) + 1 := IntWalk.i64_in _ (by omega)
      have HQ := Lib.hid hq
      clear hq
      by_cases he : q.1 = x
      · have HR := Lib.hid (show getM l x = some q.2 by
          rw [fidx_tail HS.out]
          have : l.drop j = q :: l.drop (j + 1) := by
            obtain ⟨hl, e⟩ := List.getElem?_eq_some_iff.1 HQ.out
            rw [← e]; exact List.drop_eq_getElem_cons hl
          rw [this, getM_cons, if_pos he])
        have hb : (q.1 == x) = true := by simpa using he
        have tx := strOf_toList q.1
        have ty := strOf_toList x
        clear he
        go_wp2_with (first
          | (((with_reducible show wpList _ _ _ ({ dst := none, op := Op.store 89 (.tmp 6) (.tmp 12), type := _, pos := _, after := _, guard := _ } :: _) _ _); refine wpList_put (t := 89) rfl 89 (.tmp 6) (.tmp 12) rfl _ (by rfl) (by rfl) (by (repeat (first | (apply Blk.new'; simp; done) | apply Blk.alloc | apply Blk.drew))) (by rfl) (by kernel_rfl) (by simp [Value.oneCell']) ?_; intro w5 hb5 hk5; have Hb5 := Lib.hid hb5; have Hk5 := Lib.hid hk5; clear hb5 hk5)
             have K5 := Lib.hid (((Kept.refl [] wr).alloc _).trans Hk5.out (fun i hi => .inr (by simp at hi; omega)) : Kept [] wr w5)
             have hx5 := Hb5.out.cell))
        go_ret
        exact ⟨by rw [HR.out]; rfl, KW.out.trans K5.out (by simp)⟩
      · have hb : (q.1 == x) = false := by simpa using he
        have tx := strOf_toList q.1
        have ty := strOf_toList x
        go_wp2_with (first
          | (((with_reducible show wpList _ _ _ ({ dst := none, op := Op.store 89 (.tmp 6) (.tmp 12), type := _, pos := _, after := _, guard := _ } :: _) _ _); refine wpList_put (t := 89) rfl 89 (.tmp 6) (.tmp 12) rfl _ (by rfl) (by rfl) (by (repeat (first | (apply Blk.new'; simp; done) | apply Blk.alloc | apply Blk.drew))) (by rfl) (by kernel_rfl) (by simp [Value.oneCell']) ?_; intro w5 hb5 hk5; have Hb5 := Lib.hid hb5; have Hk5 := Lib.hid hk5; clear hb5 hk5)
             have K5 := Lib.hid (((Kept.refl [] wr).alloc _).trans Hk5.out (fun i hi => .inr (by simp at hi; omega)) : Kept [] wr w5)
             have hx5 := Hb5.out.cell))
        go_roundg (m - (j + 1))
        case measure => omega
        case rel => exact ⟨j + 1, by omega, rfl, by go_num, by
          intro q' hq'
          rw [List.take_add_one, HQ.out] at hq'
          rcases List.mem_append.1 hq' with h1 | h1
          · exact HS.out q' h1
          · simp at h1; subst h1; exact he, KW.out.trans K5.out (by simp)⟩
    · obtain rfl : j = m := by omega
      have i1 : ¬ (j : Int) < (j : Int) := by omega
      have HR := Lib.hid (show getM l x = none by
        rw [fidx_tail HS.out, List.drop_of_length_le (by rw [A1.out]; exact Nat.le_refl _)]; rfl)
      go_wp2
      go_ret
      exact ⟨by rw [HR.out]; rfl, KW.out⟩
end Go.Proofs.Ythdjdfdefibepaa
end

section
namespace Go.Proofs.Ythdjdfdefibepaa
open Go.RowKit Go.ChangeShapes Go.WideShapes Go.ChangeAt Go.Deep Go.MapKept
set_option linter.unusedVariables false

theorem delN_snoc (l : List (Bs × Nat)) (d : Bs × Nat) (b : Bs) : delM (l ++ [d]) b = delM l b ++ (if d.1 = b then [] else [d]) := by
  unfold delM
  rw [List.filter_append]
  by_cases h : d.1 = b <;> simp [h]
theorem delN_len (l : List (Bs × Nat)) (b : Bs) : (delM l b).length ≤ l.length := List.length_filter_le _ _
set_option maxHeartbeats 1600000 in
theorem rwithout_any (w : World) {G : List Nat} {A : Option Addr} {m c : Nat} {l : List (Bs × Nat)} (h : NmArr w G (.slice A m c) l) (x : Bs) (hm : m ≤ 1000) :
    Calls Try.prog 72 #[.slice A m c, .string (strOf x)] w fun e w' => ∃ A' m' c', e = .returned (.slice A' m' c') ∧ NmV w w' (.slice A' m' c') (delM l x) := by
  obtain ⟨a1, a2, a3, a4⟩ := arr_lens h
  unfold maxLen at a3
  have H := Lib.hid h
  have A1 := Lib.hid a1
  clear h a1 a4
  go_enter Try.func72, Try.ntmps72
  go_wp2
  go_loopg [5, 10] m (fun gg s i wr => ∃ (j : Nat) (A : Option Addr) (m1 c1 : Nat), j ≤ m ∧ gg = m - j ∧ s = .slice A m1 c1 ∧ i = .int .i64 (j : Nat) ∧ NmV w wr (.slice A m1 c1) (delM (l.take j) x))
  case atStart => exact ⟨0, _, _, _, by omega, by omega, rfl, rfl, LV.nil (Kept.refl _ _)⟩
  case round =>
    obtain ⟨j, As, ms, cs, hj, rfl, rfl, rfl, hv⟩ := hrel
    have Hv := Lib.hid hv
    have KW := Lib.hid (LV.kept hv)
    clear hv
    by_cases hlt : j < m
    · obtain ⟨q, hq⟩ : ∃ q, l[j]? = some q := ⟨_, List.getElem?_eq_getElem (by rw [A1.out]; exact hlt)⟩
      obtain ⟨g, o, rfl, hg, hgG, d0, d1⟩ := (NmArr.kept H.out KW.out (by simp)).at hq
      have i0 : (0 : Int) ≤ (j : Int) := by omega
      have i1 : (j : Int) < (m : Int) := by omega
      have iw : IntKind.i64.wrap ((j : Int) + 1) = (j : Int) + 1 := IntWalk.i64_in _ (by omega)
      have Htk := Lib.hid (show delM (l.take (j + 1)) x = delM (l.take j) x ++ (if q.1 = x then [] else [q]) by rw [List.take_add_one, hq]; exact delN_snoc _ _ _)
      have HLL := Lib.hid (show (delM (l.take j) x).length + [q].length ≤ 100000 by
        have h1 := delN_len (l.take j) x
        rw [List.length_take] at h1
        simp
        omega)
      have tx := strOf_toList q.1
      have ty := strOf_toList x
      clear hq
      by_cases he : q.1 = x
      · have HD := Lib.hid he
        have hb : (q.1 == x) = true := by simpa using he
        have hb2 : (q.1 != x) = false := by simpa using he
        clear he
        go_wp2_with (first
          | (((with_reducible show wpList _ _ _ ({ dst := none, op := Op.store 89 (.tmp 7) (.tmp 13), type := _, pos := _, after := _, guard := _ } :: _) _ _); refine wpList_put (t := 89) rfl 89 (.tmp 7) (.tmp 13) rfl _ (by rfl) (by rfl) (by (repeat (first | (apply Blk.new'; simp; done) | apply Blk.alloc | apply Blk.drew))) (by rfl) (by kernel_rfl) (by simp [Value.oneCell']) ?_; intro w5 hb5 hk5; have Hb5 := Lib.hid hb5; have Hk5 := Lib.hid hk5; clear hb5 hk5)
             have K5 := Lib.hid (((Kept.refl [] wr).alloc _).trans Hk5.out (fun i hi => .inr (by simp at hi; omega)) : Kept [] wr w5)
             have hx5 := Hb5.out.cell))
        go_roundg (m - (j + 1))
        case measure => omega
        case rel => exact ⟨j + 1, _, _, _, by omega, rfl, rfl, by go_num, by rw [Htk.out, if_pos HD.out, List.append_nil]; exact LV.go NmOk Hv.out K5.out⟩
      · have HD := Lib.hid he
        have hb : (q.1 == x) = false := by simpa using he
        have hb2 : (q.1 != x) = true := by simpa using he
        clear he
        go_wp2_with (first
          | (((with_reducible show wpList _ _ _ ({ dst := none, op := Op.store 89 (.tmp 7) (.tmp 13), type := _, pos := _, after := _, guard := _ } :: _) _ _); refine wpList_put (t := 89) rfl 89 (.tmp 7) (.tmp 13) rfl _ (by rfl) (by rfl) (by (repeat (first | (apply Blk.new'; simp; done) | apply Blk.alloc | apply Blk.drew))) (by rfl) (by kernel_rfl) (by simp [Value.oneCell']) ?_; intro w5 hb5 hk5; have Hb5 := Lib.hid hb5; have Hk5 := Lib.hid hk5; clear hb5 hk5)
             have K5 := Lib.hid (((Kept.refl [] wr).alloc _).trans Hk5.out (fun i hi => .inr (by simp at hi; omega)) : Kept [] wr w5)
             have hx5 := Hb5.out.cell)
          | (at_builtin
             have hN7 := LV.go NmOk Hv.out (K5.out.alloc (.cells #[.string (strOf q.1), .int .i64 (q.2 : Nat)] 89))
             apply wpList_lvs (l2 := [q]) NmOk elem_nm (fun h => h) (by omega) rfl (.tmp 18) (.tmp 20) rfl
             case hs => exact rfl
             case hN => exact hN7
             case hx => exact rfl
             case hb => exact arr_blk (Blk.new _ _ _) rfl rfl
             case hl => exact HLL.out
             intro A7 m7 c7 w7 h7 k7 r7
             have V7 := Lib.hid h7
             clear h7 k7 r7 hN7))
        go_roundg (m - (j + 1))
        case measure => omega
        case rel => exact ⟨j + 1, _, _, _, by omega, rfl, rfl, by go_num, by rw [Htk.out, if_neg HD.out]; exact V7.out⟩
    · obtain rfl : m = j := by omega
      have i1 : ¬ (m : Int) < (m : Int) := by omega
      go_wp2
      go_ret
      exact ⟨_, _, _, rfl, by
        have h1 := Hv.out
        rwa [List.take_of_length_le (by rw [A1.out]; exact Nat.le_refl _)] at h1⟩
theorem lv_form {α : Type} {n : Nat} {e : TypeId} {Dec : World → List Nat → List Value → α → Prop} {W w : World} {v : Value} {l : List α} (h : LV Dec e n W w v l) : (v = .slice none 0 0 ∧ l = []) ∨ ∃ g c, v = .slice (some ⟨g, 0, none⟩) l.length c ∧ l.length ≤ c ∧ c ≤ maxLen ∧ g < w.heap.size ∧ W.heap.size ≤ g := by
  obtain ⟨css, G, h1, h2, h3, h4, h5⟩ := h
  rcases h1.2 with ⟨h0, h00⟩ | ⟨g, cap', cur, hv, hq1, hg, hq2⟩
  · refine .inl ⟨h0, ?_⟩
    obtain ⟨A, c, hv, _⟩ := h1.form
    rw [h0] at hv
    injection hv with e1 e2 e3
    exact List.eq_nil_of_length_eq_zero e2.symm
  · obtain ⟨A, c, hv', hq3, hq4⟩ := h1.form
    rw [hv] at hv'
    injection hv' with e1 e2 e3
    subst e3
    refine .inr ⟨g, cap', hv, ?_, ?_, (Array.getElem?_eq_some_iff.1 hg).1, h2 g (by rw [hv]; simp [rowOf, Value.ownBlock])⟩
    · omega
    · omega
/-- how far a name's place is -/
theorem wi_at {l : List (Bs × Nat)} {x : Bs} {f j : Nat} (h1 : ∀ q ∈ (delM l x).take j, q.1 < x) (h2 : ∀ q, (delM l x)[j]? = some q → ¬ q.1 < x) (hj : j ≤ (delM l x).length) : wiM l x f = (delM l x).take j ++ ([(x, f)] ++ (delM l x).drop j) := by
  unfold wiM
  generalize delM l x = k at *
  rcases Nat.lt_or_ge j k.length with hlt | hge
  · have e1 := h2 _ (List.getElem?_eq_getElem hlt)
    rw [tw_hit hlt (fun q hq => decide_eq_true (h1 q hq)) (decide_eq_false e1), dw_hit hlt (fun q hq => decide_eq_true (h1 q hq)) (decide_eq_false e1)]
  · have : j = k.length := by omega
    subst this
    rw [List.take_length] at h1
    rw [tw_all (fun q hq => decide_eq_true (h1 q hq)), dw_all (fun q hq => decide_eq_true (h1 q hq)), List.take_length, List.drop_length]
end Go.Proofs.Ythdjdfdefibepaa
end
