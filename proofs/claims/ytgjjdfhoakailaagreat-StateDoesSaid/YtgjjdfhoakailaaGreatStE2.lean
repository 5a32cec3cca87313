/-
  entry: Of: walked: whether an item is right.
-/
import Derived.Test.YtgjjdfhoakailaaGreatStE1
namespace Go.Proofs.YtgjjdfhoakailaaGreat
open Go.RowKit Go.Maps Go.Sort Go.Shelf
set_option linter.unusedVariables false
set_option linter.unusedSimpArgs false

/-- What an item's kind has of it. -/
def bareI (i : It) : It := if i.kind = 1 then ⟨i.kind, i.key, i.pl, 0, 0, zSl⟩ else if i.kind = 2 then ⟨i.kind, zKey, zPl, i.snap, i.unit, i.sl⟩ else if i.kind = 3 then ⟨i.kind, zKey, zPl, i.snap, 0, zSl⟩ else ⟨i.kind, zKey, zPl, 0, 0, zSl⟩
def fineI (i : It) : Bool :=
  if i.kind = 1 then inB i.pl.pos 0 262144 && inB i.pl.sec 1 1024 && inB i.pl.uni 1 16 && inB i.pl.ref 1 2147483647
  else if i.kind = 2 then inB i.snap 0 1073741824 && inB i.unit 0 511 && inB i.sl.off 0 15 && inB i.sl.mask 1 255
  else if i.kind = 3 then inB i.snap 1 1073741824 else false
def rightI (i : It) : Bool := fineI i && decide (bareI i = i)
structure EnC (w : World) (ib rb eb bb : Nat) (i b : It) (w' : World) : Prop where
  item : Blk w' ib 56 (itC i).toArray
  res : EntB w' rb
  ent : EntB w' eb
  bare : Blk w' bb 56 (itC b).toArray
  low : Below w.heap.size w w'
  lo : w.heap.size ≤ ib ∧ ib < rb ∧ rb < eb ∧ eb < bb
section
variable {w w' w'' : World} {ib rb eb bb : Nat} {i b b' : It}
theorem EnC.below (h : EnC w ib rb eb bb i b w') (hb : Below w'.heap.size w' w'') : EnC w ib rb eb bb i b w'' :=
  ⟨h.item.below hb h.item.lt, h.res.below hb, h.ent.below hb, h.bare.below hb h.bare.lt, below_chain h.low hb, h.lo⟩
theorem EnC.turnEnt (h : EnC w ib rb eb bb i b w') (he : EntB w'' eb) (hg : w'.grownBy w'' (some eb)) : EnC w ib rb eb bb i b w'' := by
  have h1 := h.lo
  exact ⟨h.item.grown hg (by simp; omega), h.res.grown hg (by simp; omega), he, h.bare.grown hg (by simp; omega), bl_g h.low hg (by omega), h1⟩
theorem EnC.turnBare (h : EnC w ib rb eb bb i b w') (he : Blk w'' bb 56 (itC b').toArray) (hg : w'.grownBy w'' (some bb)) : EnC w ib rb eb bb i b' w'' := by
  have h1 := h.lo
  exact ⟨h.item.grown hg (by simp; omega), h.res.grown hg (by simp; omega), h.ent.grown hg (by simp; omega), he, bl_g h.low hg (by omega), h1⟩
theorem EnC.rng (h : EnC w ib rb eb bb i b w') : w'.rangeAt ib 0 (itC i) := by have := h.item.range; rwa [toArr] at this
theorem EnC.brng (h : EnC w ib rb eb bb i b w') : w'.rangeAt bb 0 (itC b) := by have := h.bare.range; rwa [toArr] at this
end
theorem it_key (i : It) : ((itC i).drop 1).take (keyL i.key).length = keyL i.key := by
  show (keyL i.key ++ _).take _ = _
  rw [List.take_left]
theorem it_pl (i : It) : ((itC i).drop 33).take (plC i.pl).length = plC i.pl := by
  have e : itC i = (.int .u8 i.kind :: keyL i.key) ++ (plC i.pl ++ (.int .i64 i.snap :: .int .i64 i.unit :: slC i.sl)) := rfl
  rw [e, List.drop_left' (by simp [keyL_len]), List.take_left]
theorem it_tail (i : It) : (itC i).drop 37 = .int .i64 i.snap :: .int .i64 i.unit :: slC i.sl := by
  have e : itC i = (.int .u8 i.kind :: (keyL i.key ++ plC i.pl)) ++ (.int .i64 i.snap :: .int .i64 i.unit :: slC i.sl) := by simp [itC]
  rw [e, List.drop_left' (by simp [keyL_len, plC_len])]
theorem it_snap (i : It) : (itC i)[37]? = some (.int .i64 i.snap) := by
  have h := it_tail i
  have : (itC i)[37]? = ((itC i).drop 37)[0]? := by rw [List.getElem?_drop]
  rw [this, h]; rfl
theorem it_unit (i : It) : (itC i)[38]? = some (.int .i64 i.unit) := by
  have h := it_tail i
  have : (itC i)[38]? = ((itC i).drop 37)[1]? := by rw [List.getElem?_drop]
  rw [this, h]; rfl
theorem it_sl (i : It) : ((itC i).drop 39).take (slC i.sl).length = slC i.sl := by
  have h := it_tail i
  have : (itC i).drop 39 = ((itC i).drop 37).drop 2 := by rw [List.drop_drop]
  rw [this, h]
  show (slC i.sl).take _ = _
  rw [List.take_length]
theorem itC_cell {w : World} {ib : Nat} {i : It} (h : Blk w ib 56 (itC i).toArray) {j : Nat} {v : Value} (hv : (itC i)[j]? = some v) : w.cell? ⟨ib, j, none⟩ = some v := h.cell (by rw [List.getElem?_toArray]; exact hv)
def entZ (k : Int) (n : Nat) : List Int := k :: List.replicate n 0
theorem built_tk (k : Int) : Tryz.prog.built 152 [(0, .int .u8 k)] = some ((entZ k 39).map (Value.int .u8)).toArray := by kernel_rfl
theorem built_en (k : Int) : Tryz.prog.built 155 [(0, .agg ((entZ k 39).map (Value.int .u8)).toArray)] = some ((entZ k 79).map (Value.int .u8)).toArray := by kernel_rfl
theorem built_en0 : Tryz.prog.built 155 [] = some ((entZ 0 79).map (Value.int .u8)).toArray := by kernel_rfl
theorem ent_info (zs : List Int) (h : zs.length = 80) : (Tryz.prog.info? 155).map (·.size) = some (zs.map (Value.int .u8)).length := by rw [List.length_map, h]; kernel_rfl
theorem ent_one (zs : List Int) : ∀ v ∈ zs.map (Value.int .u8), v.oneCell' = true := by
  intro v hv
  obtain ⟨z, _, rfl⟩ := List.mem_map.1 hv
  rfl
theorem entZ_len (k : Int) : (entZ k 79).length = 80 := rfl
theorem zero_ent : ∃ zs : List Int, zs.length = 80 ∧ ∀ u : World, (zeroValue 155).run Tryz.prog u = .ok (.agg (zs.map (Value.int .u8)).toArray) u := ⟨entZ 0 79, rfl, fun u => Tryz.zeroValue155 u⟩
def EntPost (i : It) (w : World) (e : Ending) (w' : World) : Prop := ∃ zs : List Int, zs.length = 80 ∧ e = .returned (.tuple #[.agg (zs.map (Value.int .u8)).toArray, .int .i64 (if rightI i then 0 else 2)]) ∧ Below w.heap.size w w'
end Go.Proofs.YtgjjdfhoakailaaGreat
