
/-
  Contracts: a tuple written, a record written, a record's frame.
-/
import Derived.Test.YtdabbkkjmmbigaaRecD
import Derived.Test.YtdabbkkjmmbigaaWv
namespace Go.Proofs.Ytdabbkkjmmbigaa
open Go.RowKit Go.ChangeShapes Go.WideShapes Go.Deep
set_option linter.unusedVariables false

def u8B (n : Int) : List UInt8 := beK (nat64 n) 1 1
def u16B (n : Int) : List UInt8 := beK (nat64 n) 2 2
def u32n (n : Int) : Nat := (n % 4294967296).toNat
def u32B (n : Int) : List UInt8 := beK (u32n n) 4 4
def i64B (n : Int) : List UInt8 := beK (nat64 n) 8 8
def tupB (t : TupD) : List UInt8 := beK t.src.toNat 4 4 ++ beK t.dst.toNat 4 4 ++ u8B t.proto ++ u16B t.sport ++ u16B t.dport
def backB (v : Int) (b : BackD) : List UInt8 := u16B b.id ++ beK b.addr.toNat 4 4 ++ if 2 ≤ v then u8B b.weight else []
/-- a record's body -/
def bodyR (r : RecD) (v : Int) : List UInt8 :=
  if r.kind = 1 then tupB r.tup ++ u16B r.fb ++ (if 2 ≤ v then u32B r.fg else []) ++ (if 3 ≤ v then i64B r.fs else [])
  else if r.kind = 2 then tupB r.tup
  else if r.kind = 3 then u32B r.gen ++ u8B r.backs.length ++ r.backs.flatMap (backB v)
  else if r.kind = 4 then u16B r.back ++ i64B r.until_
  else if r.kind = 5 then u16B r.back
  else if r.kind = 6 then u32B r.count
  else []
theorem u8B_len (n : Int) : (u8B n).length = 1 := beK_len _ _ _
theorem u16B_len (n : Int) : (u16B n).length = 2 := beK_len _ _ _
theorem u32B_len (n : Int) : (u32B n).length = 4 := beK_len _ _ _
theorem i64B_len (n : Int) : (i64B n).length = 8 := beK_len _ _ _
theorem tupB_len (t : TupD) : (tupB t).length = 13 := by simp [tupB, u8B_len, u16B_len, beK_len]
theorem len_all : (∀ n : Int, (u8B n).length = 1) ∧ (∀ n : Int, (u16B n).length = 2) ∧ (∀ n : Int, (u32B n).length = 4) ∧ (∀ n : Int, (i64B n).length = 8) ∧ (∀ t : TupD, (tupB t).length = 13) ∧ ∀ x width k : Nat, (beK x width k).length = k := ⟨u8B_len, u16B_len, u32B_len, i64B_len, tupB_len, beK_len⟩
theorem backB_len (v : Int) (b : BackD) : (backB v b).length = if 2 ≤ v then 7 else 6 := by
  unfold backB; split <;> simp [u16B_len, u8B_len, beK_len]
theorem backsB_len (v : Int) (l : List BackD) : (l.flatMap (backB v)).length = l.length * if 2 ≤ v then 7 else 6 := by
  induction l with
  | nil => simp
  | cons b l ih => rw [List.flatMap_cons, List.length_append, ih, backB_len, List.length_cons, Nat.succ_mul, Nat.add_comm]
theorem u32n_lt (n : Int) : u32n n < 4294967296 := by unfold u32n; omega
theorem wrap_u32n (n : Int) : IntKind.u32.wrap n = (u32n n : Int) := by rw [IntKind.wrap_u32]; unfold u32n; omega

end Go.Proofs.Ytdabbkkjmmbigaa
