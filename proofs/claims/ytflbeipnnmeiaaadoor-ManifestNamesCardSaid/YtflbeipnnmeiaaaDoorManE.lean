
/-
  The contract of the reference's DecodeManifest.
-/
import Derived.Test.YtflbeipnnmeiaaaDoorManD
import Derived.Test.YtflbeipnnmeiaaaDoorFrameA
namespace Go.Proofs.YtflbeipnnmeiaaaDoor
open Go.RowKit Go.ChangeShapes Go.WideShapes Go.Deep
set_option linter.unusedVariables false
set_option maxRecDepth 100000

theorem mDecode_any (w : World) {G : List Nat} {A : Option Addr} {m c : Nat} {bs : List UInt8} (h : RdB w G (.slice A m c) bs) (hG : ∀ k ∈ G, k < w.heap.size) :
    Calls Tryd.prog 41 #[.slice A m c] w (ManRet w bs) := by
  by_cases d0 : (takeF bs).2.2 = 0
  · by_cases d1 : (takeF bs).2.1 < bs.length
    · exact mDecode_bad w h hG (.inr (.inl d1))
    · by_cases d2 : (takeF bs).1.kind = 100
      · cases d3 : verB (takeF bs).1.ver
        · exact mDecode_bad w h hG (.inr (.inr (.inr d3)))
        · exact mDecode_ok w h hG d0 d1 d2 d3
      · exact mDecode_bad w h hG (.inr (.inr (.inl d2)))
  · exact mDecode_bad w h hG (.inl d0)
theorem takeF_le {c : List UInt8} (h : (takeF c).2.2 = 0) : (takeF c).2.1 ≤ c.length := by
  obtain ⟨h1, -, h3, -, h5, -⟩ := takeF_ok h
  rw [List.length_drop] at h3
  omega
/-- where the reference's loop stands still: at the count, or where nothing is left -/
theorem decM_tail {bs : List UInt8} (h : (takeF bs).2.2 = 0) (h2 : ¬ ((takeF bs).2.1 < bs.length ∨ (takeF bs).1.kind ≠ 100)) (h3 : verB (takeF bs).1.ver = true) (k : Nat)
    (hk : k ≤ gk (nk (some (takeF bs).1.body) 4) 2) (hs : k = gk (nk (some (takeF bs).1.body) 4) 2 ∨ (rdU k (nk (nk (some (takeF bs).1.body) 4) 2)).2 = none)
    (x : ManD) (hx : x = ⟨(takeF bs).1.ver, (gk (some (takeF bs).1.body) 4 : Nat), (rdU k (nk (nk (some (takeF bs).1.body) 4) 2)).1⟩) (o : Option (List UInt8)) (ho : o = (rdU k (nk (nk (some (takeF bs).1.body) 4) 2)).2) :
    ((endOf (o.getD []) (erO o) ≠ 0 ∨ mayM x = false) → decME bs = 3 ∧ decMR bs = default) ∧ (endOf (o.getD []) (erO o) = 0 → mayM x = true → decME bs = 0 ∧ decMR bs = x) := by
  have hg := decM_good h h2 h3
  generalize (takeF bs).1.body = body at *
  generalize (takeF bs).1.ver = v at *
  obtain ⟨c1, c2⟩ := goodM_cap (cap := 65536) (by omega) v body
  have hlt := gk_lt (nk (some body) 4) 2
  rcases hs with hs | hs
  · have hr : rdM 65536 v body = (x, o) := by
      unfold rdM
      rw [Nat.min_eq_left (by omega), ← hs, hx, ho]
    have he := goodM_end 65536 v body
    rw [hr] at he
    dsimp only at he
    rw [c1] at he
    constructor
    · intro hq
      refine hg.1 (he.trans ?_)
      rcases hq with hq | hq
      · rw [decide_eq_false hq]; rfl
      · rw [hq, Bool.and_false]
    · intro q1 q2
      have ht : goodM 65 v body = true := he.trans (by rw [q1, q2]; rfl)
      have := hg.2 ht
      rw [← c2 ht, hr] at this
      exact this
  · have hn : o = none := by rw [ho, hs]
    have hf : goodM 65 v body = false := by
      rw [← c1]
      unfold goodM rdM
      rw [Nat.min_eq_left (by omega), rdU_none k _ hs _ hk]
      rfl
    refine ⟨fun _ => hg.1 hf, fun q1 _ => ?_⟩
    rw [hn] at q1
    exact absurd q1 (by decide)
theorem RW.blk {t : TypeId} {W w : World} {b : Nat} {o : Option (List UInt8)} (h : RW t W b o w) : ∃ v, Blk w b t #[v, .int .i64 (erO o)] := by
  obtain ⟨_, ⟨⟨v, h, _⟩, _⟩, _⟩ := h; exact ⟨v, h⟩
end Go.Proofs.YtflbeipnnmeiaaaDoor
