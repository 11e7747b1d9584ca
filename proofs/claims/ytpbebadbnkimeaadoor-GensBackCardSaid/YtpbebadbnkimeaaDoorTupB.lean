
/-
  A text that every program must know; tuples among a law's arguments; the walk of TupleRow.
-/
import Derived.Test.YtpbebadbnkimeaaDoorTupA
import Derived.Test.YtpbebadbnkimeaaDoorRecW
import Derived.Test.YtpbebadbnkimeaaDoorRecG
import Derived.Test.YtpbebadbnkimeaaDoorRecZ
import Derived.Test.YtpbebadbnkimeaaDoorFrameA
namespace Go.Proofs.YtpbebadbnkimeaaDoor
open Go.RowKit Go.ChangeShapes Go.WideShapes Go.ChangeAt Go.Deep
set_option linter.unusedVariables false
set_option maxRecDepth 100000

theorem text_known : textF ⟨167772161, 167772162, 6, 5, 80⟩ = [116, 99, 112, 32, 49, 48, 46, 48, 46, 48, 46, 49, 58, 53, 62, 49, 48, 46, 48, 46, 48, 46, 50, 58, 56, 48] := by
  have a1 : addrF 167772161 = [49, 48, 46, 48, 46, 48, 46, 49] := by
    rw [addrF_eq, show byteN 167772161 3 = 10 by decide, show byteN 167772161 2 = 0 by decide, show byteN 167772161 1 = 0 by decide, show byteN 167772161 0 = 1 by decide,
      Lib.decDigits_two (by omega) (by omega), Lib.decDigits_one (by omega), Lib.decDigits_one (by omega)]
    rfl
  have a2 : addrF 167772162 = [49, 48, 46, 48, 46, 48, 46, 50] := by
    rw [addrF_eq, show byteN 167772162 3 = 10 by decide, show byteN 167772162 2 = 0 by decide, show byteN 167772162 1 = 0 by decide, show byteN 167772162 0 = 2 by decide,
      Lib.decDigits_two (by omega) (by omega), Lib.decDigits_one (by omega), Lib.decDigits_one (by omega)]
    rfl
  have h5 : Lib.itoa 5 = [53] := by
    have := Lib.itoa_nonneg 5
    rw [Lib.decDigits_one (by omega)] at this
    exact this
  have h80 : Lib.itoa 80 = [56, 48] := by
    have := Lib.itoa_nonneg 80
    rw [Lib.decDigits_two (by omega) (by omega)] at this
    exact this
  unfold textF
  dsimp only
  rw [a1, a2, h5, h80]
  rfl
def TupDec (w : World) (G : List Nat) (cs : List Value) (t : TupD) : Prop := cs = [.int .u32 (t.src.toNat : Nat), .int .u32 (t.dst.toNat : Nat), .int .i64 t.proto, .int .i64 t.sport, .int .i64 t.dport]
abbrev TupArr (w : World) (G : List Nat) (v : Value) (l : List TupD) : Prop := ArrOf w G 5 (fun w => TupDec w G) v l
theorem TupArr.kept {w w' : World} {G S : List Nat} {v : Value} {l : List TupD} (h : TupArr w G v l) (hk : Kept S w w') (hd : ∀ k ∈ G, k ∉ S) : TupArr w' G v l :=
  ArrOf.kept (Dec := fun w => TupDec w G) h hk hd (fun cs a h => h)
theorem TupArr.at {w : World} {G : List Nat} {A : Option Addr} {m c : Nat} {l : List TupD} (h : TupArr w G (.slice A m c) l) {k : Nat} (hk : k < l.length) :
    ∃ g o, A = some ⟨g, o, none⟩ ∧ g < w.heap.size ∧ g ∈ G ∧ w.cell? ⟨g, o + k * 5, none⟩ = some (.int .u32 (l[k].src.toNat : Nat)) ∧ w.cell? ⟨g, o + k * 5 + 1, none⟩ = some (.int .u32 (l[k].dst.toNat : Nat)) ∧ w.cell? ⟨g, o + k * 5 + 2, none⟩ = some (.int .i64 l[k].proto) ∧
      w.cell? ⟨g, o + k * 5 + 3, none⟩ = some (.int .i64 l[k].sport) ∧ w.cell? ⟨g, o + k * 5 + 4, none⟩ = some (.int .i64 l[k].dport) := by
  obtain ⟨A', m', c', e, h1, h2, h3, h4, h5⟩ := h
  injection e with e1 e2 e3
  subst e1 e2 e3
  obtain ⟨g, o, rfl, hg, hlt, hc⟩ := h5 (by rintro rfl; simp at hk)
  obtain ⟨cs, _, rfl, hcell⟩ := hc k _ (List.getElem?_eq_getElem hk)
  exact ⟨g, o, rfl, hlt, hg, by simpa using hcell 0 (by omega), by simpa [Nat.add_assoc] using hcell 1 (by omega), by simpa [Nat.add_assoc] using hcell 2 (by omega), by simpa [Nat.add_assoc] using hcell 3 (by omega), by simpa [Nat.add_assoc] using hcell 4 (by omega)⟩
theorem TupArr.len {w : World} {G : List Nat} {A : Option Addr} {m c : Nat} {l : List TupD} (h : TupArr w G (.slice A m c) l) : l.length = m ∧ m ≤ c ∧ c ≤ maxLen := by
  obtain ⟨A', m', c', e, h1, h2, h3, h4, h5⟩ := h
  injection e with e1 e2 e3
  subst e1 e2 e3
  exact ⟨h1, h2, h3⟩
/-- the tuples that are written, up to the kth -/
def selT (l : List TupD) (k : Nat) : List TupD := ((l.take 30).take k).filter mayT
def restT (l : List TupD) (k : Nat) : List TupD := ((l.take 30).drop k).filter mayT
def bytesT (l : List TupD) : List UInt8 := l.flatMap tupB
theorem bytesT_len (l : List TupD) : (bytesT l).length = 13 * l.length := by
  unfold bytesT
  induction l with
  | nil => rfl
  | cons t l ih => rw [List.flatMap_cons, List.length_append, ih, tupB_len, List.length_cons]; omega
theorem selT_len (l : List TupD) (k : Nat) : (selT l k).length ≤ 30 :=
  Nat.le_trans (List.length_filter_le _ _) (by simp only [List.length_take]; omega)
theorem selT_in {l : List TupD} {k : Nat} (h : k < l.length) (h3 : k < 30) : selT l (k + 1) = selT l k ++ if mayT l[k] = true then [l[k]] else [] := by
  unfold selT
  have hk : k < (l.take 30).length := by rw [List.length_take]; omega
  rw [List.take_succ_eq_append_getElem hk, List.filter_append, List.getElem_take, List.filter_cons]
  split <;> simp
theorem selT_out {l : List TupD} {k : Nat} (h3 : ¬ k < 30) : selT l (k + 1) = selT l k := by
  unfold selT
  have h0 : (l.take 30).length ≤ k := by rw [List.length_take]; omega
  rw [List.take_of_length_le (Nat.le_succ_of_le h0), List.take_of_length_le h0]
theorem restT_in {l : List TupD} {k : Nat} (h : k < l.length) (h3 : k < 30) : restT l k = (if mayT l[k] = true then [l[k]] else []) ++ restT l (k + 1) := by
  unfold restT
  have hk : k < (l.take 30).length := by rw [List.length_take]; omega
  rw [← List.getElem_cons_drop (h := hk), List.filter_cons, List.getElem_take]
  split <;> simp
theorem restT_out {l : List TupD} {k : Nat} (h3 : ¬ k < 30) : restT l k = [] := by
  unfold restT
  rw [List.drop_of_length_le (by rw [List.length_take]; omega)]; rfl
theorem restT_end (l : List TupD) {k : Nat} (h : l.length ≤ k) : restT l k = [] := by
  unfold restT
  rw [List.drop_of_length_le (by rw [List.length_take]; omega)]; rfl
theorem sel_rest (l : List TupD) {k : Nat} (h : l.length ≤ k) : selT l k = restT l 0 := by
  unfold selT restT
  have h0 : (l.take 30).length ≤ k := by rw [List.length_take]; omega
  rw [List.take_of_length_le h0, List.drop_zero]
theorem powG7 : Tryd.prog.globalNamed "internal/strconv.uint64pow10" = some 3 := by kernel_rfl
end Go.Proofs.YtpbebadbnkimeaaDoor
