
/-
  One's own disk in a law: contracts by an equation of the plain model.
-/
import Derived.Test.YthdjdfdefibepaaDkM
namespace Go.Proofs.Ythdjdfdefibepaa
open Go.RowKit Go.ChangeShapes Go.WideShapes Go.ChangeAt Go.Deep Go.MapKept
set_option linter.unusedVariables false

/-- a disk of one's own, fit for a further operation -/
def DkG (w0 w : World) (p : Nat) (D : DkD) : Prop := DkS w0 w p D ∧ InvD D
section
variable {w0 w : World} {p : Nat} {D D' : DkD} {e : Int}
theorem DkG.kept (h : DkG w0 w p D) : Kept [] w0 w := h.1.kept
theorem DkG.go {w' : World} (h : DkG w0 w p D) (hk : Kept [] w w') : DkG w0 w' p D := ⟨h.1.go hk, h.2⟩
theorem NewG (w : World) (q : Int) : Calls Try.prog 14 #[.int .i64 q] w fun r w' => ∃ p, r = .returned (.pointer (some ⟨p, 0, none⟩)) ∧ DkG w w' p (newDk q) :=
  (NewS w q).mono fun r w' ⟨p, h1, h2⟩ => ⟨p, h1, h2, new_inv q⟩
theorem AppendG (h : DkG w0 w p D) {x b : Bs} (he : appD D x b = (e, D')) {s : ByteArray} (hs : strOf x = s) (ho : D.ops ≤ 400000) (hx : x.length ≤ 1000000) {B : Option Addr} {n d : Nat} (hb : RdB w0 (old w0) (.slice B n d) b) (hn : b.length ≤ 1000000) :
    Calls Try.prog 17 #[.pointer (some ⟨p, 0, none⟩), .string s, .slice B n d] w fun r w' => r = .returned (.int .i64 e) ∧ DkG w0 w' p D' := by
  subst hs
  have hl := hb.len
  refine (AppendS h.1 h.2 ho x b hx (hb.kept h.kept (by simp)) (fun k hk => List.mem_range.1 hk) (by omega)).mono fun r w' ⟨h1, h2⟩ => ?_
  have iv := app_inv h.2 x b
  rw [he] at h1 h2 iv
  exact ⟨h1, h2, iv⟩
theorem SyncG (h : DkG w0 w p D) {x : Bs} (he : synD D x = (e, D')) {s : ByteArray} (hs : strOf x = s) (ho : D.ops ≤ 400000) :
    Calls Try.prog 21 #[.pointer (some ⟨p, 0, none⟩), .string s] w fun r w' => r = .returned (.int .i64 e) ∧ DkG w0 w' p D' := by
  subst hs
  refine (SyncS h.1 h.2 ho x).mono fun r w' ⟨h1, h2⟩ => ?_
  have iv := syn_inv h.2 x
  rw [he] at h1 h2 iv
  exact ⟨h1, h2, iv⟩
theorem SyncDirG (h : DkG w0 w p D) (he : sdrD D = (e, D')) (ho : D.ops ≤ 400000) :
    Calls Try.prog 22 #[.pointer (some ⟨p, 0, none⟩)] w fun r w' => r = .returned (.int .i64 e) ∧ DkG w0 w' p D' := by
  refine (SyncDirS h.1 h.2 ho).mono fun r w' ⟨h1, h2⟩ => ?_
  have iv := sdr_inv h.2
  rw [he] at h1 h2 iv
  exact ⟨h1, h2, iv⟩
theorem RenameG (h : DkG w0 w p D) {x y : Bs} (he : renD D x y = (e, D')) {s t : ByteArray} (hs : strOf x = s) (ht : strOf y = t) (ho : D.ops ≤ 400000) (hy : y.length ≤ 1000000) :
    Calls Try.prog 23 #[.pointer (some ⟨p, 0, none⟩), .string s, .string t] w fun r w' => r = .returned (.int .i64 e) ∧ DkG w0 w' p D' := by
  subst hs ht
  refine (RenameS h.1 h.2 ho x y hy).mono fun r w' ⟨h1, h2⟩ => ?_
  have iv := ren_inv h.2 x y
  rw [he] at h1 h2 iv
  exact ⟨h1, h2, iv⟩
theorem RemoveG (h : DkG w0 w p D) {x : Bs} (he : remD D x = (e, D')) {s : ByteArray} (hs : strOf x = s) (ho : D.ops ≤ 400000) :
    Calls Try.prog 26 #[.pointer (some ⟨p, 0, none⟩), .string s] w fun r w' => r = .returned (.int .i64 e) ∧ DkG w0 w' p D' := by
  subst hs
  refine (RemoveS h.1 h.2 ho x).mono fun r w' ⟨h1, h2⟩ => ?_
  have iv := rem_inv h.2 x
  rw [he] at h1 h2 iv
  exact ⟨h1, h2, iv⟩
theorem CutG (h : DkG w0 w p D) {x : Bs} {n : Int} (he : cutD D x n = (e, D')) {s : ByteArray} (hs : strOf x = s) (ho : D.ops ≤ 400000) :
    Calls Try.prog 27 #[.pointer (some ⟨p, 0, none⟩), .string s, .int .i64 n] w fun r w' => r = .returned (.int .i64 e) ∧ DkG w0 w' p D' := by
  subst hs
  refine (CutS h.1 h.2 ho x n).mono fun r w' ⟨h1, h2⟩ => ?_
  have iv := cut_inv h.2 x n
  rw [he] at h1 h2 iv
  exact ⟨h1, h2, iv⟩
theorem FailG (h : DkG w0 w p D) (n : Int) (ho : D.ops ≤ 400000) : Calls Try.prog 19 #[.pointer (some ⟨p, 0, none⟩), .int .i64 n] w fun r w' => r = .returned (.tuple #[]) ∧ DkG w0 w' p (faiD D n) :=
  (FailS h.1 h.2 ho n).mono fun r w' ⟨h1, h2⟩ => ⟨h1, h2, fai_inv h.2 n⟩
/-- picks laid at the front -/
theorem CrashG (h : DkG w0 w p D) {ps : Bs} (ho : D.ops ≤ 400000) {B : Option Addr} {n d : Nat} {Gp : List Nat} (hp : RdB w Gp (.slice B n d) ps) (hG : ∀ k ∈ Gp, k < w0.heap.size) :
    Calls Try.prog 24 #[.pointer (some ⟨p, 0, none⟩), .slice B n d] w fun r w' => r = .returned (.tuple #[]) ∧ DkG w0 w' p (craD D ps) :=
  (CrashS h.1 h.2 ho ps hp hG).mono fun r w' ⟨h1, h2⟩ => ⟨h1, h2, cra_inv h.2 ps⟩
/-- picks laid for the call -/
theorem CrashL (h : DkG w0 w p D) {b : Bs} (ho : D.ops ≤ 400000) {n : Nat} (hn : b.length = n) (hn2 : n ≤ 1000000) :
    Calls Try.prog 24 #[.pointer (some ⟨p, 0, none⟩), .slice (some ⟨w.heap.size, 0, none⟩) n n] (w.alloc (.cells (u8s b).toArray 5)) fun r w' => r = .returned (.tuple #[]) ∧ DkG w0 w' p (craD D b) := by
  obtain ⟨⟨G, fb, bn, bs, A, m, c, h1, h2, h3⟩, iv⟩ := h
  have hk : Kept [] w (w.alloc (.cells (u8s b).toArray 5)) := (Kept.refl [] w).alloc _
  refine (Crash_any (h1.go hk) iv.ok ho iv.run b (RdB.lit w b n hn (by unfold maxLen; omega)) (fun k hk' hm => by
    obtain rfl : k = w.heap.size := by simpa using hk'
    have := h1.lt _ hm
    omega) (fun k hk' => by
    obtain rfl : k = w.heap.size := by simpa using hk'
    simp)).mono ?_
  rintro r w' ⟨he, hd⟩
  exact ⟨he, hd.s (h2.trans hk (by simp)) h3, cra_inv iv b⟩
/-- one byte laid for the call -/
theorem Append1 (h : DkG w0 w p D) {x : Bs} {b : UInt8} (he : appD D x [b] = (e, D')) {s : ByteArray} (hs : strOf x = s) (ho : D.ops ≤ 400000) (hx : x.length ≤ 1000000) :
    Calls Try.prog 17 #[.pointer (some ⟨p, 0, none⟩), .string s, .slice (some ⟨w.heap.size, 0, none⟩) 1 1] (w.alloc (.cells #[.int .u8 b.toNat] 5)) fun r w' => r = .returned (.int .i64 e) ∧ DkG w0 w' p D' := by
  subst hs
  refine (AppendL _ h.1 h.2 ho x [b] hx (n := 1) rfl (by omega)).mono fun r w' ⟨h1, h2⟩ => ?_
  have iv := app_inv h.2 x [b]
  rw [he] at h1 h2 iv
  exact ⟨h1, h2, iv⟩
theorem SizeG (h : DkG w0 w p D) (ho : D.ops ≤ 400000) {n : Nat} (hn : sizeD D = n) : Calls Try.prog 16 #[.pointer (some ⟨p, 0, none⟩)] w fun r w' => r = .returned (.int .i64 n) ∧ DkG w0 w' p D := by
  subst hn
  exact (SizeS h.1 h.2 ho).mono fun r w' ⟨h1, h2⟩ => ⟨h1, h2, h.2⟩
theorem OpsG (h : DkG w0 w p D) : Calls Try.prog 20 #[.pointer (some ⟨p, 0, none⟩)] w fun r w' => r = .returned (.int .i64 D.ops) ∧ w' = w := OpsS h.1
theorem NamesG (h : DkG w0 w p D) (ho : D.ops ≤ 400000) {n : Nat} (hn : D.now.length = n) : Calls Try.prog 15 #[.pointer (some ⟨p, 0, none⟩)] w fun r w' => ∃ A c, r = .returned (.slice A n c) ∧ DkG w0 w' p D := by
  refine (NamesS h.1 h.2 ho).mono ?_
  rintro r w' ⟨v, rfl, hs, hd⟩
  have hl : (namesD D).length = n := by rw [← hn]; unfold namesD; rw [(srtN_perm _).length_eq, List.length_map]
  rcases hs.2 with ⟨rfl, h0⟩ | ⟨g, cap, rfl, _⟩
  · rw [h0] at hl
    subst hl
    exact ⟨none, 0, rfl, hd, h.2⟩
  · rw [hl]
    exact ⟨_, _, rfl, hd, h.2⟩
theorem ReadG (h : DkG w0 w p D) {x b : Bs} (he : reaD D x = some b) {s : ByteArray} (hs : strOf x = s) : Calls Try.prog 25 #[.pointer (some ⟨p, 0, none⟩), .string s] w fun r w' => ∃ A m c, r = .returned (.tuple #[.slice A m c, .bool true]) ∧ RdB w' (rowOf (.slice A m c)) (.slice A m c) b ∧ (∀ k ∈ rowOf (.slice A m c), w.heap.size ≤ k ∧ k < w'.heap.size) ∧ DkG w0 w' p D := by
  subst hs
  refine (ReadS h.1 h.2 x).mono ?_
  rintro r w' ⟨hk, hd, ⟨h1, _⟩ | ⟨b', A2, m2, c2, h1, rfl, hn⟩⟩
  · rw [he] at h1; cases h1
  · rw [he] at h1
    injection h1 with h1
    subst h1
    exact ⟨A2, m2, c2, rfl, RdB.of_own hn.1, fun k hk => ⟨hn.2.2 k hk, by obtain ⟨cs, hb⟩ := hn.1.row_blk k hk; exact hb.lt⟩, hd, h.2⟩
theorem ReadN (h : DkG w0 w p D) {x : Bs} (he : reaD D x = none) {s : ByteArray} (hs : strOf x = s) : Calls Try.prog 25 #[.pointer (some ⟨p, 0, none⟩), .string s] w fun r w' => r = .returned (.tuple #[.slice none 0 0, .bool false]) ∧ DkG w0 w' p D := by
  subst hs
  refine (ReadS h.1 h.2 x).mono ?_
  rintro r w' ⟨hk, hd, ⟨h1, rfl⟩ | ⟨b', A2, m2, c2, h1, rfl, hn⟩⟩
  · exact ⟨rfl, hd, h.2⟩
  · rw [he] at h1; cases h1
end
end Go.Proofs.Ythdjdfdefibepaa
