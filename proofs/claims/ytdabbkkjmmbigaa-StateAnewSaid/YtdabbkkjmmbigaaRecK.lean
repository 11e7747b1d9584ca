
/-
  The contract of record.Decode.
-/
import Derived.Test.YtdabbkkjmmbigaaRecI
import Derived.Test.YtdabbkkjmmbigaaFrameT
namespace Go.Proofs.Ytdabbkkjmmbigaa
open Go.RowKit Go.ChangeShapes Go.WideShapes Go.Deep
set_option linter.unusedVariables false

def decE (f : FrameD) : Int := if verB f.ver = true then (if goodR 17 f.kind f.ver f.body = true then 0 else 3) else 10
def decR (f : FrameD) : RecD := if verB f.ver = true ∧ goodR 17 f.kind f.ver f.body = true then (rdR 17 f.kind f.ver (some f.body)).1 else default
theorem rdR_backs (cap : Nat) (k v : Int) (o : Option (List UInt8)) : (rdR cap k v o).1.backs.length ≤ cap := by
  unfold rdR
  repeat' split
  all_goals first | (simp [default]; done) | (simp only [rdBs_len]; omega)
theorem end_iff (o : Option (List UInt8)) : endOf (o.getD []) (erO o) = 0 ↔ o = some [] := by
  cases o with
  | none => simp [endOf, erO]
  | some bs => cases bs <;> simp [endOf, erO]
theorem BkV.far {W w w' : World} {g : Nat} {t : TypeId} {cs : Array Value} {sl : Value} {l : List BackD} (h : BkV W w sl l) (hk : Kept [g] w w') (hb : Blk w g t cs) (ht : 72 ≠ t) (hg : W.heap.size ≤ g) : BkV W w' sl l := by
  obtain ⟨css, G, hx⟩ := h
  exact ⟨css, [], hx.own.kept hk (fun k hk' hm => by simp at hm; subst hm; exact hx.own.ne_blk hb ht hk'), hx.new, ⟨hx.decs.1, hx.decs.2⟩, by simp, hx.keptW.trans hk (fun k hk' => .inr (by simp at hk'; omega))⟩
theorem BkV.small {W w : World} {A : Option Addr} {m c : Nat} {l : List BackD} (h : BkV W w (.slice A m c) l) (hl : l.length ≤ 1000000) : ∃ G, SmallB w G A m c l := by
  obtain ⟨G, ha, hG⟩ := LV.arr BkOk h
  have := BkArr.len ha
  exact ⟨G, ha, hG, by omega⟩
theorem goodR_end (cap : Nat) (k v : Int) (bs : List UInt8) : goodR cap k v bs = ((rdR cap k v (some bs)).2.1 && (decide (endOf ((rdR cap k v (some bs)).2.2.getD []) (erO (rdR cap k v (some bs)).2.2) = 0) && mayR (rdR cap k v (some bs)).1)) := by
  unfold goodR
  congr 2
  rw [Bool.eq_iff_iff]
  simp [end_iff]
theorem BkV.form {W w : World} {sl : Value} {l : List BackD} (h : BkV W w sl l) : ∃ A m c, sl = .slice A m c := by obtain ⟨_, _, h⟩ := h; exact Own.form' h.own

end Go.Proofs.Ytdabbkkjmmbigaa
