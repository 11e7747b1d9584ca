
/-
  Arguments of the laws on frames, opened.
-/
import Derived.Test.YtdabbkkjmmbigaaFrameR
import Derived.BigQuiet
import Derived.Test.YtdabbkkjmmbigaaFrameM
import Derived.Test.YtdabbkkjmmbigaaRef1R
import Derived.Laws.OwnMore
section
namespace Go.Proofs.Ytdabbkkjmmbigaa
open Go.RowKit
set_option linter.unusedVariables false

theorem u32_four (a b c d : UInt8) : bits .or .u32 (bits .or .u32 (bits .or .u32 ((a.toNat : Int) % 4294967296 * 16777216 % 4294967296) ((b.toNat : Int) % 4294967296 * 65536 % 4294967296)) ((c.toNat : Int) % 4294967296 * 256 % 4294967296)) ((d.toNat : Int) % 4294967296) = (num [a, b, c, d] : Nat) := by
  have ha := a.toNat_lt
  have hb := b.toNat_lt
  have hc := c.toNat_lt
  have hd := d.toNat_lt
  rw [show ((a.toNat : Int) % 4294967296 * 16777216 % 4294967296) = ((a.toNat * 256 * 65536 : Nat) : Int) by omega, show ((b.toNat : Int) % 4294967296 * 65536 % 4294967296) = ((b.toNat * 65536 : Nat) : Int) by omega,
    show ((c.toNat : Int) % 4294967296 * 256 % 4294967296) = ((c.toNat * 256 : Nat) : Int) by omega, show ((d.toNat : Int) % 4294967296) = ((d.toNat : Nat) : Int) by omega]
  rw [u32_or_nat _ _ (by omega) (by omega), show a.toNat * 256 * 65536 = a.toNat * 2 ^ 24 by omega, nat_join 24 _ _ (by omega) (by omega)]
  rw [u32_or_nat _ _ (by omega) (by omega), show a.toNat * 2 ^ 24 + b.toNat * 65536 = (a.toNat * 256 + b.toNat) * 2 ^ 16 by omega, nat_join 16 _ _ (by omega) (by omega)]
  rw [u32_or_nat _ _ (by omega) (by omega), show (a.toNat * 256 + b.toNat) * 2 ^ 16 + c.toNat * 256 = ((a.toNat * 256 + b.toNat) * 256 + c.toNat) * 2 ^ 8 by omega, nat_join 8 _ _ (by omega) (by omega)]
  simp [num]

end Go.Proofs.Ytdabbkkjmmbigaa
end

section
namespace Go.Proofs.Ytdabbkkjmmbigaa
open Go.RowKit
set_option linter.unusedVariables false

theorem i64_two (p q : UInt8) : bits .or .i64 (wrap64 (wrap64 (p.toNat : Int) * 256)) (wrap64 (q.toNat : Int)) = (num [p, q] : Nat) := by
  have hp := p.toNat_lt
  have hq := q.toNat_lt
  rw [show wrap64 (wrap64 (p.toNat : Int) * 256) = ((p.toNat * 256 : Nat) : Int) by unfold wrap64; omega, show wrap64 (q.toNat : Int) = ((q.toNat : Nat) : Int) by unfold wrap64; omega]
  have hx : p.toNat * 256 ||| q.toNat < 2 ^ 64 := Nat.or_lt_two_pow (by omega) (by omega)
  have hj := nat_join 8 (p.toNat * 256) q.toNat (by omega) (by omega)
  show IntKind.i64.wrap ((BitVec.ofInt 64 ((p.toNat * 256 : Nat) : Int) ||| BitVec.ofInt 64 ((q.toNat : Nat) : Int)).toNat : Int) = _
  rw [BitVec.toNat_or, ofInt_u64 _ (by omega), ofInt_u64 _ (by omega), hj]
  have : num [p, q] = p.toNat * 256 + q.toNat := by simp [num]
  rw [this]
  exact IntWalk.i64_in _ (by omega)

end Go.Proofs.Ytdabbkkjmmbigaa
end

section
namespace Go.Proofs.Ytdabbkkjmmbigaa
open Go.RowKit Go.ChangeShapes Go.WideShapes Go.Deep
set_option linter.unusedVariables false

/-- cells that read a frame -/
def FrDec (w : World) (G : List Nat) (cs : List Value) (f : FrameD) : Prop := ∃ A m c, cs = [.int .i64 f.kind, .int .i64 f.ver, .slice A m c] ∧ RdB w G (.slice A m c) f.body
theorem FrOk : DecOk 3 FrDec where
  len := by rintro w G cs f ⟨A, m, c, rfl, h⟩; rfl
  one := by rintro w G cs f ⟨A, m, c, rfl, h⟩ u hu; simp at hu; rcases hu with rfl | rfl | rfl <;> rfl
  kept := by rintro w w' G S cs f ⟨A, m, c, rfl, h⟩ hk hd; exact ⟨A, m, c, rfl, h.kept hk hd⟩
  mono := by rintro w G G' cs f ⟨A, m, c, rfl, h⟩ hg; exact ⟨A, m, c, rfl, h.mono hg⟩
/-- a row of frames -/
abbrev FrArr (w : World) (G : List Nat) (v : Value) (l : List FrameD) : Prop := ArrOf w G 3 (fun w => FrDec w G) v l
theorem FrArr.kept {w w' : World} {G S : List Nat} {v : Value} {l : List FrameD} (h : FrArr w G v l) (hk : Kept S w w') (hd : ∀ k ∈ G, k ∉ S) : FrArr w' G v l :=
  ArrOf.kept (Dec := fun w => FrDec w G) h hk hd (fun cs a h => FrOk.kept h hk hd)
theorem sameFs_drop {l l' : List FrameD} {k : Nat} (h : k < l.length) (h' : k < l'.length) : sameFs (l.drop k) (l'.drop k) = (sameF l[k] l'[k] && sameFs (l.drop (k + 1)) (l'.drop (k + 1))) := by
  rw [← List.getElem_cons_drop (h := h), ← List.getElem_cons_drop (h := h')]; rfl
theorem sameFs_len : ∀ {l l' : List FrameD}, l.length ≠ l'.length → sameFs l l' = false
  | [], [], h => absurd rfl h
  | [], _ :: _, _ => rfl
  | _ :: _, [], _ => rfl
  | f :: l, g :: l', h => by simp [sameFs, sameFs_len (l := l) (l' := l') (by simpa using h)]

/-- one frame of an array: its cells -/
theorem FrArr.at {w : World} {G : List Nat} {A : Option Addr} {m c : Nat} {l : List FrameD} (h : FrArr w G (.slice A m c) l) {k : Nat} (hk : k < l.length) :
    ∃ g o B n d, A = some ⟨g, o, none⟩ ∧ g < w.heap.size ∧ g ∈ G ∧ w.cell? ⟨g, o + k * 3, none⟩ = some (.int .i64 l[k].kind) ∧ w.cell? ⟨g, o + k * 3 + 1, none⟩ = some (.int .i64 l[k].ver) ∧ w.cell? ⟨g, o + k * 3 + 2, none⟩ = some (.slice B n d) ∧ RdB w G (.slice B n d) l[k].body := by
  obtain ⟨A', m', c', e, h1, h2, h3, h4, h5⟩ := h
  injection e with e1 e2 e3
  subst e1 e2 e3
  obtain ⟨g, o, rfl, hg, hlt, hc⟩ := h5 (by rintro rfl; simp at hk)
  obtain ⟨cs, _, ⟨B, n, d, rfl, hr⟩, hcell⟩ := hc k _ (List.getElem?_eq_getElem hk)
  exact ⟨g, o, B, n, d, rfl, hlt, hg, by simpa using hcell 0 (by omega), by simpa [Nat.add_assoc] using hcell 1 (by omega), by simpa [Nat.add_assoc] using hcell 2 (by omega), hr⟩
theorem FrArr.len {w : World} {G : List Nat} {A : Option Addr} {m c : Nat} {l : List FrameD} (h : FrArr w G (.slice A m c) l) : l.length = m ∧ m ≤ c ∧ c ≤ maxLen ∧ (A = none → m = 0 ∧ c = 0) := by
  obtain ⟨A', m', c', e, h1, h2, h3, h4, h5⟩ := h
  injection e with e1 e2 e3
  subst e1 e2 e3
  exact ⟨h1, h2, h3, h4⟩

end Go.Proofs.Ytdabbkkjmmbigaa
end

section
namespace Go.Proofs.Ytdabbkkjmmbigaa
open Go.RowKit Go.ChangeShapes Go.WideShapes Go.Deep
set_option linter.unusedVariables false

/-- the frames l have been scanned, k bytes are behind them -/
def ScanAt (bs : List UInt8) (l : List FrameD) (k : Nat) : Prop := scanF bs = (l ++ (scanF (bs.drop k)).1, k + (scanF (bs.drop k)).2.1, (scanF (bs.drop k)).2.2)
theorem ScanAt.start (bs : List UInt8) : ScanAt bs [] 0 := by simp [ScanAt]
theorem ScanAt.step {bs : List UInt8} {l : List FrameD} {k n : Nat} {f : FrameD} (h : ScanAt bs l k) (hk : k < bs.length) (ht : takeF (bs.drop k) = (f, n, 0)) : ScanAt bs (l ++ [f]) (k + n) := by
  unfold ScanAt at *
  have hne : bs.drop k ≠ [] := by intro h0; have h0 := congrArg List.length h0; rw [List.length_drop, List.length_nil] at h0; omega
  rw [scanF_cons hne (by rw [ht]), ht, List.drop_drop] at h
  rw [h]
  simp [Nat.add_assoc]
theorem ScanAt.err {bs : List UInt8} {l : List FrameD} {k n : Nat} {f : FrameD} {e : Int} (h : ScanAt bs l k) (hk : k < bs.length) (ht : takeF (bs.drop k) = (f, n, e)) (he : e ≠ 0) : scanF bs = (l, k, e) := by
  unfold ScanAt at h
  have hne : bs.drop k ≠ [] := by intro h0; have h0 := congrArg List.length h0; rw [List.length_drop, List.length_nil] at h0; omega
  rw [scanF_err hne (by rw [ht]; exact he), ht] at h
  rw [h]; simp
theorem ScanAt.done {bs : List UInt8} {l : List FrameD} {k : Nat} (h : ScanAt bs l k) (hk : bs.length ≤ k) : scanF bs = (l, k, 0) := by
  unfold ScanAt at h
  rw [List.drop_of_length_le hk, scanF_nil] at h
  rw [h]; simp
theorem take_bound {bs : List UInt8} {k n : Nat} {f : FrameD} (ht : takeF (bs.drop k) = (f, n, 0)) (hk : k ≤ bs.length) : 16 ≤ n ∧ k + n ≤ bs.length := by
  have h := take_len (bs.drop k) (by rw [ht])
  rw [ht, List.length_drop] at h
  simp only at h
  omega

end Go.Proofs.Ytdabbkkjmmbigaa
end

section
namespace Go.Proofs.Ytdabbkkjmmbigaa
open Go.RowKit Go.ChangeShapes Go.WideShapes Go.Deep
set_option linter.unusedVariables false

/-- the frames that are put: among the first twelve those that are not too long -/
def selF (l : List FrameD) : List FrameD := (l.take 12).filter fun f => decide (f.body.length ≤ 300)
theorem selF_snoc (l : List FrameD) (k : Nat) (h : k < l.length) : selF (l.take (k + 1)) = selF (l.take k) ++ if k < 12 ∧ l[k].body.length ≤ 300 then [l[k]] else [] := by
  unfold selF
  by_cases hk : k < 12
  · rw [List.take_take, List.take_take, Nat.min_eq_right (by omega), Nat.min_eq_right (by omega), List.take_succ_eq_append_getElem h, List.filter_append]
    by_cases hb : l[k].body.length ≤ 300
    · simp [hk, hb]
    · simp [hb]
  · rw [List.take_take, List.take_take, Nat.min_eq_left (by omega), Nat.min_eq_left (by omega)]
    simp [hk]
theorem selF_len (l : List FrameD) : (joinF (selF l)).length ≤ 3792 := by
  have h : ∀ l : List FrameD, (∀ f ∈ l, f.body.length ≤ 300) → (joinF l).length ≤ 316 * l.length := by
    intro l
    induction l with
    | nil => intro _; simp [joinF_nil]
    | cons f l ih =>
      intro hl
      have h1 := ih (fun g hg => hl g (by simp [hg]))
      have h2 := putF_len_le f
      have h3 := hl f (by simp)
      rw [joinF_cons, List.length_append, List.length_cons]
      omega
  have h1 := h (selF l) (fun f hf => by simpa using (List.mem_filter.1 hf).2)
  have h2 : (selF l).length ≤ 12 := Nat.le_trans (List.length_filter_le _ _) (by rw [List.length_take]; omega)
  omega
/-- a row of ints -/
def IntDec (w : World) (G : List Nat) (cs : List Value) (n : Int) : Prop := cs = [.int .i64 n] ∧ -9223372036854775808 ≤ n ∧ n ≤ 9223372036854775807
theorem IntOk : DecOk 1 IntDec where
  len := by rintro w G cs f ⟨rfl, h⟩; rfl
  one := by rintro w G cs f ⟨rfl, h⟩ u hu; simp at hu; rcases hu with rfl; rfl
  kept := by rintro w w' G S cs f h hk hd; exact h
  mono := by rintro w G G' cs f h hg; exact h
abbrev IntArr (w : World) (G : List Nat) (v : Value) (l : List Int) : Prop := ArrOf w G 1 (fun w => IntDec w G) v l
theorem IntArr.kept {w w' : World} {G S : List Nat} {v : Value} {l : List Int} (h : IntArr w G v l) (hk : Kept S w w') (hd : ∀ k ∈ G, k ∉ S) : IntArr w' G v l :=
  ArrOf.kept (Dec := fun w => IntDec w G) h hk hd (fun cs a h => h)
theorem IntArr.at {w : World} {G : List Nat} {A : Option Addr} {m c : Nat} {l : List Int} (h : IntArr w G (.slice A m c) l) {k : Nat} (hk : k < l.length) :
    ∃ g o, A = some ⟨g, o, none⟩ ∧ g < w.heap.size ∧ g ∈ G ∧ w.cell? ⟨g, o + k, none⟩ = some (.int .i64 l[k]) ∧ -9223372036854775808 ≤ l[k] ∧ l[k] ≤ 9223372036854775807 := by
  obtain ⟨A', m', c', e, h1, h2, h3, h4, h5⟩ := h
  injection e with e1 e2 e3
  subst e1 e2 e3
  obtain ⟨g, o, rfl, hg, hlt, hc⟩ := h5 (by rintro rfl; simp at hk)
  obtain ⟨cs, _, ⟨rfl, hr⟩, hcell⟩ := hc k _ (List.getElem?_eq_getElem hk)
  exact ⟨g, o, rfl, hlt, hg, by simpa using hcell 0 (by omega), hr⟩
theorem ArrOf.lens {α : Type} {w : World} {G : List Nat} {n : Nat} {Dec : World → List Value → α → Prop} {A : Option Addr} {m c : Nat} {l : List α} (h : ArrOf w G n Dec (.slice A m c) l) : l.length = m ∧ m ≤ c ∧ c ≤ maxLen ∧ (A = none → m = 0 ∧ c = 0) := by
  obtain ⟨A', m', c', e, h1, h2, h3, h4, h5⟩ := h
  injection e with e1 e2 e3
  subst e1 e2 e3
  exact ⟨h1, h2, h3, h4⟩
theorem New.set {W w : World} {g n cap : Nat} {bs : List UInt8} (h : New W 5 1 (.slice (some ⟨g, 0, none⟩) n cap) n (u8s bs) w) (j : Nat) (b : UInt8) :
    New W 5 1 (.slice (some ⟨g, 0, none⟩) n cap) n (u8s (bs.set j b)) (w.setCell ⟨g, j, none⟩ (.int .u8 b.toNat)) := by
  have h1 := World.ownsRow.stored h.1 j (.int .u8 (b.toNat : Int))
  refine ⟨?_, h.2.1.trans ((Kept.refl [g] w).grown h1.2 (fun k hk => .inl (by injection hk with hk; simp [hk]))) (fun i hi => .inr ?_), h.2.2⟩
  · have e : u8s (bs.set j b) = (u8s bs).set j (.int .u8 (b.toNat : Int)) := by simp [u8s, List.map_set, u8v]
    rw [e]; exact h1.1
  · have hi : i = g := by simpa using hi
    rw [hi]; exact h.2.2 g (by simp [rowOf, Value.ownBlock])
theorem xor_u8 (a b : UInt8) : bits .xor .u8 (a.toNat : Int) (b.toNat : Int) = ((a ^^^ b).toNat : Int) := by
  rw [u8_xor_nat _ _ (by simpa using a.toNat_lt) (by simpa using b.toNat_lt)]; simp

end Go.Proofs.Ytdabbkkjmmbigaa
end

section
namespace Go.Proofs.Ytdabbkkjmmbigaa
open Go.RowKit Go.ChangeShapes Go.WideShapes Go.ChangeAt Go.Deep
set_option linter.unusedVariables false
section
variable {H : Type} {enc : TypeId × Value → H} {w : World}
set_option maxRecDepth 100000 in
theorem open_list {α : Type} [Inhabited α] {t e : TypeId} {n : Nat} {Dec : World → List Nat → List Value → α → Prop} {bk : α → Nat} (ht : Try.prog.underlying t = some (.slice e)) (hn : Try.prog.cellsOf e = n) (hp : 0 < n)
    (ho : ∀ {fuel : Nat} {cs : List Value} {x : DataW H × List MemPlace}, DataW.trod enc Try.prog w 0 (fun _ => true) true fuel e cs = some x → ∃ a : α, Dec w (old w) cs a ∧ bk a ≤ Rows.uptoBulk x.1)
    {v : Value} {d : DataW H} {p : List MemPlace} {base : Nat} (hv : Value.okWide Try.prog w .any base t v) (h : DataW.Trod enc Try.prog w 0 (fun _ => true) true t v d p) :
    ∃ l : List α, ArrOf w (old w) n (fun w => Dec w (old w)) v l ∧ (l.map bk).sum + 1 ≤ Rows.uptoBulk d := by
  obtain ⟨a0, len, cap, rfl⟩ := okWide_slice ht hv
  obtain ⟨fuel, hf⟩ := h
  obtain ⟨A, m, c, E, D, e1, h2, h3, h4, h5, h6, h7⟩ := open_slice_at ht hn hp hf
  obtain ⟨l, hl, hd, hs⟩ := list_of_dec (α := α) (m := m) (E := E) (D := D) (Dec := fun cs a => Dec w (old w) cs a) (bk := bk) (fun i hi => by
    obtain ⟨_, fu, ps, ht⟩ := h6 i hi
    exact ho ht)
  refine ⟨l, ⟨A, m, c, by simpa [Value.cells] using e1, hl, h2, h3, h4, fun hne => ?_⟩, by simp only at h7; omega⟩
  obtain ⟨g, o, e2, e3, e4⟩ := h5 (by
    rcases Nat.eq_zero_or_pos m with h0 | h0
    · subst h0; exact absurd (List.eq_nil_of_length_eq_zero hl) hne
    · exact h0)
  refine ⟨g, o, e2, List.mem_range.2 e3, e3, fun i a hi => ?_⟩
  have hlt : i < m := by have := (List.getElem?_eq_some_iff.1 hi).1; omega
  exact ⟨E i, (h6 i hlt).1, hd i a hi, fun j hj => e4 i j hlt hj⟩
set_option maxRecDepth 100000 in
theorem open_ints_arr {v : Value} {d : DataW H} {p : List MemPlace} {base : Nat} (hv : Value.okWide Try.prog w .any base 73 v) (h : DataW.Trod enc Try.prog w 0 (fun _ => true) true 73 v d p) :
    ∃ l : List Int, IntArr w (old w) v l ∧ (l.map fun _ => 0).sum + 1 ≤ Rows.uptoBulk d :=
  open_list (Dec := IntDec) Try.underlying73 (by kernel_rfl) (by omega) (fun {fuel cs x} h => by
    obtain ⟨a, e0, _, wa⟩ := DataW.trod_int Try.underlying3 h
    subst e0
    refine ⟨a, ⟨rfl, ?_⟩, Nat.zero_le _⟩
    simp [Lit.wf, IntKind.min, IntKind.max, IntKind.signed, IntKind.bits] at wa
    omega) hv h
set_option maxRecDepth 100000 in
theorem open_u8 {v : Value} {d : DataW H} {p : List MemPlace} {base : Nat} (hv : Value.okWide Try.prog w .any base 5 v) (h : DataW.Trod enc Try.prog w 0 (fun _ => true) true 5 v d p) : ∃ x : UInt8, v = .int .u8 x.toNat := by
  obtain ⟨n, rfl, rfl, rfl, hw⟩ := open_int Try.underlying5 hv h
  simp [Lit.wf, IntKind.min, IntKind.max, IntKind.signed, IntKind.bits] at hw
  refine ⟨UInt8.ofNat n.toNat, ?_⟩
  congr 1
  simp only [UInt8.toNat_ofNat']
  omega
end
end Go.Proofs.Ytdabbkkjmmbigaa
end
