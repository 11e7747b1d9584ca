
/-
  Contracts: a tuple written, a record written, a record's frame.
-/
import Derived.Test.YtoibecclilmllaaRecD
import Derived.Test.YtoibecclilmllaaWv
namespace Go.Proofs.Ytoibecclilmllaa
open Go.RowKit Go.ChangeShapes Go.WideShapes Go.Deep
set_option linter.unusedVariables false

def u8B (n : Int) : List UInt8 := beK (nat64 n) 1 1
def u16B (n : Int) : List UInt8 := beK (nat64 n) 2 2
def u32n (n : Int) : Nat := (n % 4294967296).toNat
def u32B (n : Int) : List UInt8 := beK (u32n n) 4 4
def i64B (n : Int) : List UInt8 := beK (nat64 n) 8 8
def tupB (t : TupD) : List UInt8 := beK t.src.toNat 4 4 ++ beK t.dst.toNat 4 4 ++ u8B t.proto ++ u16B t.sport ++ u16B t.dport
def backB (v : Int) (b : BackD) : List UInt8 := u16B b.id ++ beK b.addr.toNat 4 4 ++ if 2 ≤ v then u8B b.weight else []
/-- a record's body -/
def bodyR (r : RecD) (v : Int) : List UInt8 :=
  if r.kind = 1 then tupB r.tup ++ u16B r.fb ++ (if 2 ≤ v then u32B r.fg else []) ++ (if 3 ≤ v then i64B r.fs else [])
  else if r.kind = 2 then tupB r.tup
  else if r.kind = 3 then u32B r.gen ++ u8B r.backs.length ++ r.backs.flatMap (backB v)
  else if r.kind = 4 then u16B r.back ++ i64B r.until_
  else if r.kind = 5 then u16B r.back
  else if r.kind = 6 then u32B r.count
  else []
theorem u8B_len (n : Int) : (u8B n).length = 1 := beK_len _ _ _
theorem u16B_len (n : Int) : (u16B n).length = 2 := beK_len _ _ _
theorem u32B_len (n : Int) : (u32B n).length = 4 := beK_len _ _ _
theorem i64B_len (n : Int) : (i64B n).length = 8 := beK_len _ _ _
theorem tupB_len (t : TupD) : (tupB t).length = 13 := by simp [tupB, u8B_len, u16B_len, beK_len]
theorem len_all : (∀ n : Int, (u8B n).length = 1) ∧ (∀ n : Int, (u16B n).length = 2) ∧ (∀ n : Int, (u32B n).length = 4) ∧ (∀ n : Int, (i64B n).length = 8) ∧ (∀ t : TupD, (tupB t).length = 13) ∧ ∀ x width k : Nat, (beK x width k).length = k := ⟨u8B_len, u16B_len, u32B_len, i64B_len, tupB_len, beK_len⟩
theorem backB_len (v : Int) (b : BackD) : (backB v b).length = if 2 ≤ v then 7 else 6 := by
  unfold backB; split <;> simp [u16B_len, u8B_len, beK_len]
theorem backsB_len (v : Int) (l : List BackD) : (l.flatMap (backB v)).length = l.length * if 2 ≤ v then 7 else 6 := by
  induction l with
  | nil => simp
  | cons b l ih => rw [List.flatMap_cons, List.length_append, ih, backB_len, List.length_cons, Nat.succ_mul, Nat.add_comm]
theorem u32n_lt (n : Int) : u32n n < 4294967296 := by unfold u32n; omega
theorem wrap_u32n (n : Int) : IntKind.u32.wrap n = (u32n n : Int) := by rw [IntKind.wrap_u32]; unfold u32n; omega

set_option maxHeartbeats 800000 in
theorem TW_any {W w : World} {b : Nat} {bs : List UInt8} (h : WV W b bs w) (t : TupD) (hl : bs.length ≤ 1000000) :
    Calls Try.prog 35 #[.pointer (some ⟨b, 0, none⟩), .agg #[.int .u32 (t.src.toNat : Nat), .int .u32 (t.dst.toNat : Nat), .int .i64 t.proto, .int .i64 t.sport, .int .i64 t.dport]] w fun e w' => e = .returned (.tuple #[]) ∧ WV W b (bs ++ tupB t) w' ∧ Apart w w' := by
  have H := Lib.hid (h.go ((Kept.refl [] w).alloc (.cells #[.int .u32 (t.src.toNat : Nat), .int .u32 (t.dst.toNat : Nat), .int .i64 t.proto, .int .i64 t.sport, .int .i64 t.dport] 24)))
  have Hb := Lib.hid (Blk.new w 24 #[.int .u32 (t.src.toNat : Nat), .int .u32 (t.dst.toNat : Nat), .int .i64 t.proto, .int .i64 t.sport, .int .i64 t.dport])
  have Ha := Lib.hid (Apart.of_kept ((Kept.refl [] w).alloc (.cells #[.int .u32 (t.src.toNat : Nat), .int .u32 (t.dst.toNat : Nat), .int .i64 t.proto, .int .i64 t.sport, .int .i64 t.dport] 24)))
  clear h
  go_enter Try.func35, Try.ntmps35
  go_wp2_with fail
  refine (VU32 H.out _ t.src.toNat rfl t.src.toNat_lt (by omega)).mono ?_
  rintro e w1 ⟨rfl, hv1, ha1⟩
  have hc1 := (ha1 _ _ _ (by decide) (by decide) Hb.out).cell
  have H1 := Lib.hid hv1
  have A1 := Lib.hid ha1
  clear hv1 ha1
  go_wp2_with fail
  clear hc1
  refine (VU32 H1.out _ t.dst.toNat rfl t.dst.toNat_lt (by simp [beK_len]; omega)).mono ?_
  rintro e w2 ⟨rfl, hv2, ha2⟩
  have A2 := Lib.hid (A1.out.trans ha2)
  have hc2 := (A2.out _ _ _ (by decide) (by decide) Hb.out).cell
  have H2 := Lib.hid hv2
  clear hv2 ha2
  go_wp2_with fail
  clear hc2
  refine (VU8 H2.out t.proto (by simp [beK_len]; omega)).mono ?_
  rintro e w3 ⟨rfl, hv3, ha3⟩
  have A3 := Lib.hid (A2.out.trans ha3)
  have hc3 := (A3.out _ _ _ (by decide) (by decide) Hb.out).cell
  have H3 := Lib.hid hv3
  clear hv3 ha3
  go_wp2_with fail
  clear hc3
  refine (VU16 H3.out t.sport (by simp [beK_len]; omega)).mono ?_
  rintro e w4 ⟨rfl, hv4, ha4⟩
  have A4 := Lib.hid (A3.out.trans ha4)
  have hc4 := (A4.out _ _ _ (by decide) (by decide) Hb.out).cell
  have H4 := Lib.hid hv4
  clear hv4 ha4
  go_wp2_with fail
  clear hc4
  refine (VU16 H4.out t.dport (by simp [beK_len]; omega)).mono ?_
  rintro e w5 ⟨rfl, hv5, ha5⟩
  have A5 := Lib.hid (A4.out.trans ha5)
  have H5 := Lib.hid hv5
  clear hv5 ha5
  go_wp2
  go_end0
  exact ⟨rfl, by have := H5.out; simpa [tupB, u8B, u16B] using this, Ha.out.trans A5.out⟩
end Go.Proofs.Ytoibecclilmllaa
