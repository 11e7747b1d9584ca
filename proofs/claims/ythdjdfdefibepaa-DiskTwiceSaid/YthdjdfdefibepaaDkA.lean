
/-
  The disk: what its functions compute (plain), its files and its maps in memory.
-/
import Derived.Test.YthdjdfdefibepaaMap
import Derived.Test.YthdjdfdefibepaaBlk
import Derived.Test.YthdjdfdefibepaaFrameT
import Derived.Sort.OwnSorted
namespace Go.Proofs.Ythdjdfdefibepaa
open Go.RowKit Go.ChangeShapes Go.WideShapes Go.ChangeAt Go.Deep Go.MapKept
set_option linter.unusedVariables false

abbrev Bs := List UInt8
structure FlE where
  b : Bs
  sure : Nat
structure ChD where
  kind : Int
  name : Bs
  dst : Bs
  f : Option Nat
structure DkD where
  files : List FlE
  now : List (Bs × Nat)
  sur : List (Bs × Nat)
  ch : List ChD
  quota : Int
  ops : Int
  fail : Int

/-- a change done to names -/
def doD (m : List (Bs × Nat)) (c : ChD) : List (Bs × Nat) :=
  if c.kind = 1 then (match c.f with | some i => putM m c.name i | none => m)
  else if c.kind = 2 then (match getM m c.name with | some i => delM (putM m c.dst i) c.name | none => m)
  else if c.kind = 3 then delM m c.name else m
/-- may it be done? -/
def okC (n : Nat) (m : List (Bs × Nat)) (c : ChD) : Prop := (c.kind = 1 ∧ ∃ i, c.f = some i ∧ i < n) ∨ (c.kind = 2 ∧ c.f = none ∧ (getM m c.name).isSome = true ∧ c.name ≠ c.dst) ∨ (c.kind = 3 ∧ c.f = none)
def chgD (D : DkD) (c : ChD) : DkD := { D with now := doD D.now c, ch := D.ch ++ [c] }
def begD (D : DkD) : Int × DkD := if D.ops + 1 = D.fail then (8, { D with ops := D.ops + 1, fail := 0 }) else (0, { D with ops := D.ops + 1 })
def namedD (s : Bs) : Bool := decide (1 ≤ s.length) && decide (s.length ≤ 16)
def lenF (fs : List FlE) (i : Nat) : Nat := ((fs[i]?).map fun f => f.b.length).getD 0
def sizeD (D : DkD) : Nat := (D.now.map fun p => lenF D.files p.2).sum
def roomD (D : DkD) (f : Option Nat) (n : Nat) : Bool :=
  !(decide (D.quota < (sizeD D : Nat)) || (decide (D.quota - (sizeD D : Nat) < (n : Nat)) || decide ((1048576 : Int) - ((f.map (lenF D.files)).getD 0 : Nat) < (n : Nat)))) && (f.isSome || decide (D.now.length < 200))
def putF' (D : DkD) (i : Nat) (f : FlE) : DkD := { D with files := D.files.set i f }
def appF (fs : List FlE) (i : Nat) (b : Bs) : List FlE := match fs[i]? with | some f => fs.set i ⟨f.b ++ b, f.sure⟩ | none => fs
def newD (D : DkD) (name : Bs) : DkD := chgD { D with files := D.files ++ [⟨[], 0⟩] } ⟨1, name, [], some D.files.length⟩
def appD (D : DkD) (name b : Bs) : Int × DkD :=
  if (begD D).1 ≠ 0 then begD D
  else if namedD name = false then (1, (begD D).2)
  else if roomD (begD D).2 (getM D.now name) b.length = false then (7, (begD D).2)
  else match getM D.now name with
    | some i => (0, { (begD D).2 with files := appF D.files i b })
    | none => (0, { newD (begD D).2 name with files := appF (D.files ++ [⟨[], 0⟩]) D.files.length b })
/-- a file, for an operation -/
def fndD (D : DkD) (name : Bs) : Option Nat × Int × DkD :=
  if (begD D).1 ≠ 0 then (none, (begD D).1, (begD D).2) else match getM D.now name with | some i => (some i, 0, (begD D).2) | none => (none, 6, (begD D).2)
def synD (D : DkD) (name : Bs) : Int × DkD :=
  match (fndD D name).1 with | some i => ((fndD D name).2.1, { (fndD D name).2.2 with files := match D.files[i]? with | some f => D.files.set i ⟨f.b, f.b.length⟩ | none => D.files }) | none => (fndD D name).2
def cutD (D : DkD) (name : Bs) (n : Int) : Int × DkD :=
  match (fndD D name).1 with
  | some i => if n < 0 ∨ (lenF D.files i : Int) < n then (1, (fndD D name).2.2) else (0, { (fndD D name).2.2 with files := match D.files[i]? with | some f => D.files.set i ⟨f.b.take n.toNat, n.toNat⟩ | none => D.files })
  | none => (fndD D name).2
def renD (D : DkD) (a b : Bs) : Int × DkD :=
  match (fndD D a).1 with
  | some i => if namedD b = false then (1, (fndD D a).2.2) else if a = b then (0, (fndD D a).2.2) else (0, chgD (fndD D a).2.2 ⟨2, a, b, none⟩)
  | none => (fndD D a).2
def remD (D : DkD) (a : Bs) : Int × DkD :=
  match (fndD D a).1 with | some i => (0, chgD (fndD D a).2.2 ⟨3, a, [], none⟩) | none => (fndD D a).2
def sdrD (D : DkD) : Int × DkD := if (begD D).1 ≠ 0 then begD D else (0, { (begD D).2 with sur := D.now, ch := [] })
def reaD (D : DkD) (name : Bs) : Option Bs := (getM D.now name).bind fun i => (D.files[i]?).map (·.b)
def faiD (D : DkD) (n : Int) : DkD := { D with fail := if 1 ≤ n ∧ n ≤ 4611686018427387904 then D.ops + n else 0 }
def newDk (q : Int) : DkD := ⟨[], [], [], [], max 0 (min q 67108864), 0, 0⟩
/-- what holds of every disk -/
structure OkI (D : DkD) : Prop where
  now : ∀ q ∈ D.now, q.2 < D.files.length
  sur : ∀ q ∈ D.sur, q.2 < D.files.length
  ch : ∀ c ∈ D.ch, ∀ i, c.f = some i → i < D.files.length
  nn : (D.now.map (·.1)).Nodup
  ns : (D.sur.map (·.1)).Nodup
  ops : 0 ≤ D.ops
  sure : ∀ f ∈ D.files, f.sure ≤ f.b.length ∧ f.b.length ≤ 1048576
  quota : 0 ≤ D.quota ∧ D.quota ≤ 67108864
  nl : (D.now.length : Int) ≤ D.ops ∧ (D.sur.length : Int) ≤ D.ops ∧ (D.ch.length : Int) ≤ D.ops ∧ (D.files.length : Int) ≤ D.ops

def ekS (s : Bs) : Value := .string (strOf s)
/-- a file's block -/
def fbA (fb : List Nat) (i : Nat) : Nat := fb.getD i 0
theorem fbA_get {fb : List Nat} {i g : Nat} (h : fb[i]? = some g) : fbA fb i = g := by unfold fbA; rw [List.getD_eq_getElem?_getD, h]; rfl
def evF (fb : List Nat) (i : Nat) : Value := .pointer (some ⟨fbA fb i, 0, none⟩)
theorem ekS_fam : KeyFam Try.prog 9 ekS := KeyFam.plain (d := .string) Try.underlying9 (fun x => trivial) (fun {a b} h => strOf_inj (by injection h))
theorem MapB.turn {κ ν : Type} {ek : κ → Value} {ev ev' : ν → Value} {w : World} {b : Nat} {m : List (κ × ν)} (h : MapB ek ev w b m) (hv : ∀ q ∈ m, ev q.2 = ev' q.2) : MapB ek ev' w b m := by
  obtain ⟨⟨es, clock, h1, h2, h3⟩, hn⟩ := h
  refine ⟨⟨es, clock, h1, h2.trans ?_, h3⟩, hn⟩
  apply List.map_congr_left
  intro q hq
  rw [hv q hq]
theorem getD_app (fb gb : List Nat) {i : Nat} (h : i < fb.length) : fbA (fb ++ gb) i = fbA fb i := by
  unfold fbA
  rw [List.getD_eq_getElem?_getD, List.getD_eq_getElem?_getD, List.getElem?_append_left h]

/-- a change's cells -/
def chC (fb : List Nat) (c : ChD) : List Value := [.int .i64 c.kind, .string (strOf c.name), .string (strOf c.dst), .pointer (c.f.map fun i => ⟨fbA fb i, 0, none⟩)]
theorem chC_len (fb : List Nat) (c : ChD) : (chC fb c).length = 4 := rfl
def chsC (fb : List Nat) (l : List ChD) : List Value := (l.map (chC fb)).flatten
theorem chsC_len (fb : List Nat) : ∀ l : List ChD, (chsC fb l).length = l.length * 4
  | [] => rfl
  | c :: l => by
    have := chsC_len fb l
    unfold chsC at this ⊢
    rw [List.map_cons, List.flatten_cons, List.length_append, this, chC_len, List.length_cons]
    omega
theorem chsC_app (fb : List Nat) (l k : List ChD) : chsC fb (l ++ k) = chsC fb l ++ chsC fb k := by unfold chsC; rw [List.map_append, List.flatten_append]
theorem chsC_more (fb gb : List Nat) (l : List ChD) (h : ∀ c ∈ l, ∀ i, c.f = some i → i < fb.length) : chsC (fb ++ gb) l = chsC fb l := by
  unfold chsC
  congr 1
  apply List.map_congr_left
  intro c hc
  unfold chC
  cases hf : c.f with
  | none => rfl
  | some i =>
    have := h c hc i hf
    simp only [Option.map_some]
    rw [getD_app fb gb this]

/-- blocks that hold neither files nor bytes -/
def Othr (w : World) (k : Nat) : Prop := (∀ cs, ¬ Blk w k 71 cs) ∧ ∀ cs, ¬ Blk w k 5 cs
theorem Othr.of_new {w : World} {k : Nat} (h : w.heap.size ≤ k) : Othr w k := ⟨fun cs hb => by have := hb.lt; omega, fun cs hb => by have := hb.lt; omega⟩
theorem Othr.of_blk {w : World} {k : Nat} {t : TypeId} {cs : Array Value} (h : Blk w k t cs) (h1 : t ≠ 71) (h2 : t ≠ 5) : Othr w k := ⟨fun c hb => h1 (Blk.inj h hb).1, fun c hb => h2 (Blk.inj h hb).1⟩
theorem Othr.of_map {κ ν : Type} {ek : κ → Value} {ev : ν → Value} {w : World} {k : Nat} {m : List (κ × ν)} (h : MapB ek ev w k m) : Othr w k := ⟨fun c hb => h.ne_blk hb rfl, fun c hb => h.ne_blk hb rfl⟩
theorem Own.row_blk {w : World} {e : TypeId} {s n : Nat} {v : Value} {xs : List Value} (h : Own w e s v n xs) : ∀ k ∈ rowOf v, ∃ cs, Blk w k e cs := by
  intro k hk
  have hk := mem_rowOf.1 hk
  rcases h.2 with ⟨rfl, _⟩ | ⟨g, cap, cur, rfl, _, hg, _⟩
  · simp [Value.ownBlock] at hk
  · simp [Value.ownBlock] at hk
    subst hk
    exact ⟨cur, hg⟩
theorem Othr.of_row {w : World} {e : TypeId} {s n : Nat} {v : Value} {xs : List Value} (h : Own w e s v n xs) (h1 : e ≠ 71) (h2 : e ≠ 5) : ∀ k ∈ rowOf v, Othr w k := fun k hk => by
  obtain ⟨cs, hb⟩ := h.row_blk k hk
  exact Othr.of_blk hb h1 h2

/-- files in blocks fb of G -/
structure FsAt (w : World) (G fb : List Nat) (fs : List FlE) : Prop where
  len : fb.length = fs.length
  nd : fb.Nodup
  inG : ∀ g ∈ fb, g ∈ G
  ex : ∃ sl : List Value, sl.length = fs.length ∧ (∀ (i g : Nat) (v : Value) (f : FlE), fb[i]? = some g → sl[i]? = some v → fs[i]? = some f → Blk w g 71 #[v, .int .i64 (f.sure : Nat)] ∧ Own w 5 1 v f.b.length (u8s f.b)) ∧
    (∀ (i j : Nat) (v v' : Value), sl[i]? = some v → sl[j]? = some v' → i ≠ j → ∀ k ∈ rowOf v, k ∉ rowOf v') ∧ ∀ v ∈ sl, ∀ k ∈ rowOf v, k ∈ G
theorem FsAt.kept {w w' : World} {G fb S : List Nat} {fs : List FlE} (h : FsAt w G fb fs) (hk : Kept S w w') (hS : ∀ k ∈ S, Othr w k) : FsAt w' G fb fs := by
  obtain ⟨h1, h2, h3, sl, h4, h5, h6, h7⟩ := h
  refine ⟨h1, h2, h3, sl, h4, fun i g v f ha hb hc => ?_, h6, h7⟩
  obtain ⟨q1, q2⟩ := h5 i g v f ha hb hc
  exact ⟨q1.kept hk (fun hm => (hS g hm).1 _ q1), q2.kept hk (fun k hk' hm => by
    obtain ⟨cs, hbk⟩ := q2.row_blk k hk'
    exact (hS k hm).2 _ hbk)⟩
theorem FsAt.mono {w : World} {G G' fb : List Nat} {fs : List FlE} (h : FsAt w G fb fs) (hg : ∀ k ∈ G, k ∈ G') : FsAt w G' fb fs := by
  obtain ⟨h1, h2, h3, sl, h4, h5, h6, h7⟩ := h
  exact ⟨h1, h2, fun g hg' => hg g (h3 g hg'), sl, h4, h5, h6, fun v hv k hk => hg k (h7 v hv k hk)⟩
theorem FsAt.get {w : World} {G fb : List Nat} {fs : List FlE} (h : FsAt w G fb fs) {i : Nat} {f : FlE} (hf : fs[i]? = some f) :
    ∃ A c, fb[i]? = some (fbA fb i) ∧ fbA fb i ∈ G ∧ Blk w (fbA fb i) 71 #[.slice A f.b.length c, .int .i64 (f.sure : Nat)] ∧ Own w 5 1 (.slice A f.b.length c) f.b.length (u8s f.b) ∧ ∀ k ∈ rowOf (.slice A f.b.length c), k ∈ G := by
  obtain ⟨h1, h2, h3, sl, h4, h5, h6, h7⟩ := h
  have hlt := (List.getElem?_eq_some_iff.1 hf).1
  have e1 : fb[i]? = some (fb[i]'(by omega)) := List.getElem?_eq_getElem _
  have e2 : sl[i]? = some (sl[i]'(by omega)) := List.getElem?_eq_getElem _
  have e3 : fbA fb i = fb[i]'(by omega) := fbA_get e1
  obtain ⟨q1, q2⟩ := h5 i _ _ f e1 e2 hf
  obtain ⟨A, c, hv, _, _⟩ := q2.form
  rw [hv] at q1 q2
  have hin := h7 _ (List.getElem_mem (h := by omega) : sl[i]'(by omega) ∈ sl)
  rw [hv] at hin
  exact ⟨A, c, by rw [e3]; exact e1, by rw [e3]; exact h3 _ (List.getElem_mem _), by rw [e3]; exact q1, q2, hin⟩
theorem FsAt.ne {w : World} {G fb : List Nat} {fs : List FlE} (h : FsAt w G fb fs) {i j : Nat} (hi : i < fs.length) (hj : j < fs.length) (hij : i ≠ j) : fbA fb i ≠ fbA fb j := by
  have hl := h.len
  have e1 : fb[i]? = some (fb[i]'(by omega)) := List.getElem?_eq_getElem _
  have e2 : fb[j]? = some (fb[j]'(by omega)) := List.getElem?_eq_getElem _
  rw [fbA_get e1, fbA_get e2]
  intro e
  exact hij ((List.getElem_inj h.nd).1 e)
/-- one file written -/
theorem FsAt.set {w w' : World} {G G' fb : List Nat} {fs : List FlE} (h : FsAt w G fb fs) {i : Nat} {f f' : FlE} (hf : fs[i]? = some f) {A : Option Addr} {c : Nat} {v' : Value} (hb : Blk w (fbA fb i) 71 #[.slice A f.b.length c, .int .i64 (f.sure : Nat)])
    (hk : Kept (fbA fb i :: rowOf (.slice A f.b.length c)) w w') (hb' : Blk w' (fbA fb i) 71 #[v', .int .i64 (f'.sure : Nat)]) (ho : Own w' 5 1 v' f'.b.length (u8s f'.b))
    (hr : ∀ k ∈ rowOf v', k ∈ rowOf (.slice A f.b.length c) ∨ w.heap.size ≤ k) (hG : ∀ k ∈ G, k ∈ G') (hG' : ∀ k ∈ rowOf v', k ∈ G') (hlt : ∀ k ∈ G, k < w.heap.size) : FsAt w' G' fb (fs.set i f') := by
  have h0 := h
  obtain ⟨h1, h2, h3, sl, h4, h5, h6, h7⟩ := h
  have hil := (List.getElem?_eq_some_iff.1 hf).1
  have e1 : fb[i]? = some (fbA fb i) := by rw [fbA_get (List.getElem?_eq_getElem (by omega : i < fb.length))]; exact List.getElem?_eq_getElem _
  have e2 : sl[i]? = some (sl[i]'(by omega)) := List.getElem?_eq_getElem _
  obtain ⟨q1, q2⟩ := h5 i _ _ f e1 e2 hf
  have ev : sl[i]'(by omega) = .slice A f.b.length c := by
    have := (Blk.inj q1 hb).2
    simpa using this
  rw [ev] at e2
  have hold : ∀ (j : Nat) (v : Value), sl[j]? = some v → i ≠ j → ∀ k ∈ rowOf v, k ∉ fbA fb i :: rowOf (.slice A f.b.length c) := by
    intro j v hj hij k hk hm
    have hjl := (List.getElem?_eq_some_iff.1 hj).1
    obtain ⟨fj, hfj⟩ : ∃ fj, fs[j]? = some fj := ⟨_, List.getElem?_eq_getElem (by omega)⟩
    obtain ⟨p1, p2⟩ := h5 j _ v fj (List.getElem?_eq_getElem (by omega)) hj hfj
    obtain ⟨cs, hbk⟩ := p2.row_blk k hk
    rcases List.mem_cons.1 hm with rfl | hm
    · exact absurd (Blk.inj hbk hb).1 (by decide)
    · exact h6 i j _ v e2 hj hij k hm hk
  refine ⟨by rw [List.length_set]; exact h1, h2, fun g hg => hG g (h3 g hg), sl.set i v', by rw [List.length_set, List.length_set]; exact h4, fun j g v fj hg hv hfj => ?_, fun a b v u ha hb' hab k hk' hm => ?_, fun v hv k hk' => ?_⟩
  · by_cases hij : i = j
    · subst hij
      rw [List.getElem?_set_self (by omega)] at hv hfj
      injection hv with hv; injection hfj with hfj
      subst hv hfj
      rw [e1] at hg; injection hg with hg; subst hg
      exact ⟨hb', ho⟩
    · rw [List.getElem?_set_ne hij] at hv hfj
      obtain ⟨p1, p2⟩ := h5 j g v fj hg hv hfj
      have hjl := (List.getElem?_eq_some_iff.1 hfj).1
      have hne : g ≠ fbA fb i := by
        have := h0.ne (i := j) (j := i) hjl hil (fun e => hij e.symm)
        rw [fbA_get hg] at this
        exact this
      refine ⟨p1.kept hk (fun hm => ?_), p2.kept hk (hold j v hv hij)⟩
      rcases List.mem_cons.1 hm with hm | hm
      · exact hne hm
      · obtain ⟨cs, hbk⟩ := (ev ▸ q2 : Own w 5 1 (.slice A f.b.length c) _ _).row_blk g hm
        exact absurd (Blk.inj hbk p1).1 (by decide)
  · by_cases hia : i = a
    · subst hia
      rw [List.getElem?_set_self (by omega)] at ha
      injection ha with ha; subst ha
      rw [List.getElem?_set_ne hab] at hb'
      rcases hr k hk' with hr | hr
      · exact hold b u hb' hab k hm (List.mem_cons_of_mem _ hr)
      · have := hlt k (h7 u (List.mem_of_getElem? hb') k hm); omega
    · rw [List.getElem?_set_ne hia] at ha
      by_cases hib : i = b
      · subst hib
        rw [List.getElem?_set_self (by omega)] at hb'
        injection hb' with hb'; subst hb'
        rcases hr k hm with hr | hr
        · exact hold a v ha hia k hk' (List.mem_cons_of_mem _ hr)
        · have := hlt k (h7 v (List.mem_of_getElem? ha) k hk'); omega
      · rw [List.getElem?_set_ne hib] at hb'
        exact h6 a b v u ha hb' hab k hk' hm
  · rcases List.mem_or_eq_of_mem_set hv with hv | rfl
    · exact hG k (h7 v hv k hk')
    · exact hG' k hk'
/-- one file more -/
theorem FsAt.add {w w' : World} {G fb : List Nat} {fs : List FlE} (h : FsAt w G fb fs) (hk : Kept [] w w') (hb : Blk w' w.heap.size 71 #[.slice none 0 0, .int .i64 0]) (hlt : ∀ k ∈ G, k < w.heap.size) : FsAt w' (w.heap.size :: G) (fb ++ [w.heap.size]) (fs ++ [⟨[], 0⟩]) := by
  have hk1 := h.kept hk (by simp)
  obtain ⟨h1, h2, h3, sl, h4, h5, h6, h7⟩ := hk1
  refine ⟨by simp [h1], ?_, fun g hg => ?_, sl ++ [.slice none 0 0], by simp [h4], fun i g v f ha hv hf => ?_, fun i j v u ha hv hij k hk' hm => ?_, fun v hv k hk' => ?_⟩
  · rw [List.nodup_append]
    refine ⟨h2, by simp, fun a ha b hb' => ?_⟩
    obtain rfl : b = _ := by simpa using hb'
    have := hlt a (h3 a ha); omega
  · rcases List.mem_append.1 hg with hg | hg
    · exact List.mem_cons_of_mem _ (h3 g hg)
    · obtain rfl : g = _ := by simpa using hg
      exact List.mem_cons_self
  · by_cases hi : i < fs.length
    · rw [List.getElem?_append_left (by omega)] at ha hv hf
      exact h5 i g v f ha hv hf
    · have hle := (List.getElem?_eq_some_iff.1 hf).1
      have hi' : i = fs.length := by simp at hle; omega
      subst hi'
      rw [List.getElem?_append_right (by omega)] at ha hv hf
      simp [h1, h4] at ha hv hf
      subst ha hv hf
      exact ⟨hb, Own.nil _ _ _⟩
  · have key : ∀ (i : Nat) (v : Value), (sl ++ [.slice none 0 0])[i]? = some v → (i < fs.length ∧ sl[i]? = some v) ∨ rowOf v = [] := fun i v hv => by
      by_cases hi : i < fs.length
      · rw [List.getElem?_append_left (by omega)] at hv
        exact .inl ⟨hi, hv⟩
      · rw [List.getElem?_append_right (by omega)] at hv
        obtain ⟨hl, hv⟩ := List.getElem?_eq_some_iff.1 hv
        right
        have : v = .slice none 0 0 := by simpa using hv.symm
        rw [this]; rfl
    rcases key i v ha with ⟨hi, ha⟩ | ha
    · rcases key j u hv with ⟨hj, hv⟩ | hv
      · exact h6 i j v u ha hv hij k hk' hm
      · rw [hv] at hm; cases hm
    · rw [ha] at hk'; cases hk'
  · rcases List.mem_append.1 hv with hv | hv
    · exact List.mem_cons_of_mem _ (h7 v hv k hk')
    · obtain rfl : v = _ := by simpa using hv
      simp [rowOf, Value.ownBlock] at hk'
end Go.Proofs.Ythdjdfdefibepaa
