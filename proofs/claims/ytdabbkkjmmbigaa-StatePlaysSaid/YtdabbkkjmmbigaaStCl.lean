
/-
  maps.Clone at a state's two maps: laid (written by the shelf's tool), and what it does to a map of one's own.
-/
import Derived.Shelf.SlMaps.Clone
import Derived.Test.YtdabbkkjmmbigaaProg
import Derived.Test.YtdabbkkjmmbigaaStX
namespace Go.Proofs
open Go.Shelf
def Try.cloneD_ren : Go.Shelf.Ren := ⟨fun | 5 => 53 | 7 => 79 | n => n, fun | 23 => 65 | 25 => 3 | 3 => 2 | 4 => 4 | 20 => 20 | n => n, fun | n => n⟩
theorem Try.cloneD : SlLaysW.n5 Try.prog Try.cloneD_ren := {
  mixed := by kernel_rfl
  f5 := ⟨Try.f53.name, by decide, Try.func53.trans (congrArg some (by kernel_rfl))⟩
  f7 := Try.func79.trans (congrArg some (by kernel_rfl))
  t4 := Try.underlying4
  a4 := Try.isAgg4
  z4 := Try.sizeOf4
  v4 := Try.zeroValue4
  t20 := Try.underlying20
  a20 := Try.isAgg20
  z20 := Try.sizeOf20
  v20 := Try.zeroValue20
  t23 := Try.underlying65
  a23 := Try.isAgg65
  z23 := Try.sizeOf65
  v23 := Try.zeroValue65 }
def Try.cloneF_ren : Go.Shelf.Ren := ⟨fun | 5 => 54 | 7 => 79 | n => n, fun | 23 => 66 | 25 => 29 | 3 => 31 | 4 => 4 | 20 => 20 | n => n, fun | n => n⟩
theorem Try.cloneF : SlLaysW.n5 Try.prog Try.cloneF_ren := {
  mixed := by kernel_rfl
  f5 := ⟨Try.f54.name, by decide, Try.func54.trans (congrArg some (by kernel_rfl))⟩
  f7 := Try.func79.trans (congrArg some (by kernel_rfl))
  t4 := Try.underlying4
  a4 := Try.isAgg4
  z4 := Try.sizeOf4
  v4 := Try.zeroValue4
  t20 := Try.underlying20
  a20 := Try.isAgg20
  z20 := Try.sizeOf20
  v20 := Try.zeroValue20
  t23 := Try.underlying66
  a23 := Try.isAgg66
  z23 := Try.sizeOf66
  v23 := Try.zeroValue66 }
end Go.Proofs
namespace Go.Proofs.Ytdabbkkjmmbigaa
open Go.RowKit Go.ChangeShapes Go.WideShapes Go.ChangeAt Go.Deep Go.MapKept
set_option linter.unusedVariables false
theorem MapB.copy {κ ν : Type} {ek : κ → Value} {ev : ν → Value} {w : World} {b : Nat} {m : List (κ × ν)} (h : MapB ek ev w b m) : ∃ es clock, w.heap[b]? = some (.map es clock) ∧ MapB ek ev (w.alloc (.map es clock)) w.heap.size m := by
  obtain ⟨es, clock, hb, hr⟩ := h.ex
  exact ⟨es, clock, hb, ⟨es, clock, (MapKept.heap_alloc w _).1, hr⟩, h.nodup⟩
theorem CloneD_any {w : World} {b : Nat} {m : List (Int × Int)} (h : MapB ekI evI w b m) : Calls Try.prog 53 #[.map (some b)] w fun e w' => e = .returned (.map (some w.heap.size)) ∧ MapB ekI evI w' w.heap.size m ∧ Kept [] w w' := by
  obtain ⟨es, clock, hb, hm⟩ := h.copy
  refine (AnyW.maps_Clone Try.cloneD b es clock w hb).mono ?_
  rintro e w' ⟨rfl, rfl⟩
  exact ⟨rfl, hm, (Kept.refl [] w).alloc _⟩
theorem CloneF_any {w : World} {b : Nat} {m : List (TupD × FlD)} (h : MapB ekT evF w b m) : Calls Try.prog 54 #[.map (some b)] w fun e w' => e = .returned (.map (some w.heap.size)) ∧ MapB ekT evF w' w.heap.size m ∧ Kept [] w w' := by
  obtain ⟨es, clock, hb, hm⟩ := h.copy
  refine (AnyW.maps_Clone Try.cloneF b es clock w hb).mono ?_
  rintro e w' ⟨rfl, rfl⟩
  exact ⟨rfl, hm, (Kept.refl [] w).alloc _⟩
end Go.Proofs.Ytdabbkkjmmbigaa
