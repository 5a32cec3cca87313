/-
  what this claim needs of: StE1, StE2, StE3 (written by cut.py).
-/
import Derived.Test.YtgjjdfhoakailaaGreatBStQ1
import Derived.Test.YtgjjdfhoakailaaGreatBStS1
import Derived.Laws.IdiomCopy
namespace Go.Proofs.YtgjjdfhoakailaaGreat
open Go.RowKit Go.Maps Go.Sort Go.Shelf
set_option linter.unusedVariables false
set_option linter.unusedSimpArgs false

/-- An entry's block: 80 bytes. -/
def EntB (w : World) (eb : Nat) : Prop := ∃ zs : List Int, zs.length = 80 ∧ Blk w eb 155 (zs.map (Value.int .u8)).toArray
theorem EntB.lt {w : World} {eb : Nat} (h : EntB w eb) : eb < w.heap.size := by obtain ⟨_, _, h⟩ := h; exact h.lt
theorem EntB.below {w w' : World} {eb : Nat} (h : EntB w eb) (hb : Below w.heap.size w w') : EntB w' eb := by
  obtain ⟨zs, h1, h2⟩ := h
  exact ⟨zs, h1, h2.below hb h2.lt⟩
theorem EntB.grown {w w' : World} {eb : Nat} {row : Option Nat} (h : EntB w eb) (hb : w.grownBy w' row) (hg : some eb ≠ row) : EntB w' eb := by
  obtain ⟨zs, h1, h2⟩ := h
  exact ⟨zs, h1, h2.grown hb hg⟩
theorem EntB.cell {w : World} {eb : Nat} (h : EntB w eb) {j : Nat} (hj : j < 80) : ∃ z : Int, w.cell? ⟨eb, j, none⟩ = some (.int .u8 z) ∧ w.frozen? ⟨eb, j, none⟩ = false := by
  obtain ⟨zs, h1, h2⟩ := h
  refine ⟨zs[j]'(by omega), h2.cell ?_, h2.free j⟩
  rw [List.getElem?_toArray, List.getElem?_map, List.getElem?_eq_getElem (by omega)]
  rfl
theorem EntB.put {w : World} {eb : Nat} (h : EntB w eb) (j : Nat) (z : Int) : EntB (w.setCell ⟨eb, j, none⟩ (.int .u8 z)) eb := by
  obtain ⟨zs, h1, h2⟩ := h
  refine ⟨zs.set j z, by simpa using h1, ?_⟩
  have := h2.put j (.int .u8 z)
  rw [List.map_set]
  simpa using this
theorem EntB.puts {w : World} {eb : Nat} (h : EntB w eb) (o : Nat) (ks : List Int) (ho : o + ks.length ≤ 80) : EntB (w.setCells eb o (ks.map (Value.int .u8))) eb := by
  obtain ⟨zs, h1, h2⟩ := h
  refine ⟨zs.take o ++ ks ++ zs.drop (o + ks.length), by simp; omega, ?_⟩
  have := Blk.puts (ks.map (Value.int .u8)) w _ o h2
  rw [putAt_list _ _ _ (by simp; omega)] at this
  simpa [List.map_take, List.map_drop] using this
section
variable {P : Program} {w : World} {ops : Array Oper} {rest : List Oper} {o : Oper} {a : Act} {Q : Exit → Act → World → Prop}
/-- An operation whose answer is known. -/
theorem wpl_val (hg : o.guard = none) (v : Value) (hr : (execOp a.eval o).run P w = .ok (.value v) w) (hK : wpList P ops Q rest (a.put o.dst v) w) : wpList P ops Q (o :: rest) a w := by
  refine wpList_plain hg fun K' hK' => ?_
  unfold Oper.wp
  rw [hr]
  exact hK' _ _ hK
end
section
variable {w : World} {ops : Array Oper} {rest : List Oper} {o : Oper} {a : Act} {Q : Exit → Act → World → Prop}
/-- A key is copied into an entry. -/
theorem wpl_ecopy (hg : o.guard = none) (d s : Operand) (hop : o.op = .call { callee := .builtin .copy, args := #[d, s], argTypes := #[106, 106] }) (eb off dl dc b2 o2 : Nat) (K : Key) (he : EntB w eb) (hd : a.eval d = .slice (some ⟨eb, off, none⟩) dl dc) (hs : a.eval s = .slice (some ⟨b2, o2, none⟩) 32 32) (hr : w.rangeAt b2 o2 (keyL K))
    (hl : 32 ≤ dl) (ho : off + 32 ≤ 80) (hK : ∀ w1, EntB w1 eb → w.grownBy w1 (some eb) → wpList Tryz.prog ops Q rest (a.put o.dst (.int .i64 32)) w1) : wpList Tryz.prog ops Q (o :: rest) a w := by
  refine wpList_plain hg fun K' hK' => ?_
  have hmin : (keyL K).length = Nat.min 32 dl := by rw [keyL_len]; exact (Nat.min_eq_left hl).symm
  have hrun := run_copy_cells (P := Tryz.prog) w 106 106 o.type 5 eb off dl dc ⟨b2, o2, none⟩ 32 32 (keyL K) Tryz.underlying106 (by kernel_rfl) hmin
    (fun j v hj => by rw [Addr.add_mid]; exact hr j v hj) (fun j hj => by rw [keyL_len] at hj; obtain ⟨z, h1, _⟩ := he.cell (j := off + j) (by omega); rw [h1]; rfl) (fun j hj => by rw [keyL_len] at hj; exact (he.cell (j := off + j) (by omega)).choose_spec.2) (keyL_one K)
  have hg2 := (grown_setCells (g := eb) (keyL K) w off).1
  have he2 : EntB (w.setCells eb off (keyL K)) eb := he.puts off K.1 (by rw [K.2.1]; omega)
  rw [keyL_len] at hrun
  unfold Oper.wp
  simp [execOp, hop, resolve, invoke, builtin, hd, hs, hrun, Result.andThen]
  exact hK' _ _ (hK _ he2 hg2)
end
theorem slice_tkey (eb : Nat) (W : World) : (Instr.sliceAt 152 (.pointer (some ⟨eb, 0, none⟩)) (some (.int .i64 1)) none none).run Tryz.prog W = .ok (.slice (some ⟨eb, 1, none⟩) 39 39) W := by
  have hu : Tryz.prog.underlying 152 = some (.array (Tryz.prog.arrayLen 152) (Tryz.prog.elem 152)) := by kernel_rfl
  have hl : Tryz.prog.arrayLen 152 = 40 := by kernel_rfl
  have he : Tryz.prog.elem 152 = 5 := by kernel_rfl
  rw [run_sliceAt_array_l W _ _ hu _ _ (by omega) (by rw [hl]; omega), hl, he, Tryz.sizeOf5]
  simp only [Result.andThen_ok, slicedAt]
  simp [Addr.add_mid]
theorem slice_tval (eb : Nat) (W : World) : (Instr.sliceAt 153 (.pointer (some ⟨eb, 40, none⟩)) none none none).run Tryz.prog W = .ok (.slice (some ⟨eb, 40, none⟩) 40 40) W := by
  have hu : Tryz.prog.underlying 153 = some (.array (Tryz.prog.arrayLen 153) (Tryz.prog.elem 153)) := by kernel_rfl
  have hl : Tryz.prog.arrayLen 153 = 40 := by kernel_rfl
  have he : Tryz.prog.elem 153 = 5 := by kernel_rfl
  rw [run_sliceAt_array_all W _ _ hu, hl, he, Tryz.sizeOf5]
  simp only [Result.andThen_ok, slicedAt]
  simp [Addr.add_mid]
theorem entWithin_any (n a b : Int) (w : World) : Calls Tryz.prog 117 #[.int .i64 n, .int .i64 a, .int .i64 b] w fun e w' => e = .returned (.bool (decide (a ≤ n ∧ n ≤ b))) ∧ w = w' := by
  by_cases h1 : a ≤ n
  · by_cases h2 : n ≤ b
    · rw [decide_eq_true (And.intro h1 h2)]
      go_enter Tryz.func117, Tryz.ntmps117
      go_wp2
      go_ret
      simp [h1, h2]
    · rw [decide_eq_false (fun h => h2 h.2)]
      go_enter Tryz.func117, Tryz.ntmps117
      go_wp2
      go_ret
      simp [h1, h2]
  · rw [decide_eq_false (fun h => h1 h.1)]
    go_enter Tryz.func117, Tryz.ntmps117
    go_wp2
    go_ret
    simp [h1]
set_option maxHeartbeats 1000000 in
theorem four_any {w : World} {eb : Nat} (h : EntB w eb) (off len cap : Nat) (x : Int) (hl : 4 ≤ len) (ho : off + 4 ≤ 80) :
    Calls Tryz.prog 118 #[.slice (some ⟨eb, off, none⟩) len cap, .int .i64 x] w fun e w' => e = .returned (.tuple #[]) ∧ EntB w' eb ∧ w.grownBy w' (some eb) := by
  have H := Lib.hid h
  clear h
  go_enter Tryz.func118, Tryz.ntmps118
  go_upto_region 1 with fail
  go_loopg [5] 4 (fun k iv wr => ∃ i : Nat, iv = .int .i64 (i : Int) ∧ i ≤ 4 ∧ i + k ≤ 4 ∧ 4 ≤ i + k ∧ EntB wr eb ∧ w.grownBy wr (some eb))
  case atStart => exact ⟨0, rfl, by omega, by omega, by omega, H.out, World.grownBy.refl _ _⟩
  case round =>
    obtain ⟨i, rfl, i1, i2, i3, he, hg⟩ := hrel
    have HE := Lib.hid he
    have G := Lib.hid hg
    clear he hg H
    by_cases hi : i < 4
    · obtain ⟨z, cz, fz⟩ := HE.out.cell (j := off + i) (by omega)
      have hi4 : i = 0 ∨ i = 1 ∨ i = 2 ∨ i = 3 := by omega
      rcases hi4 with rfl | rfl | rfl | rfl
      all_goals
        (try simp only [Nat.add_zero] at cz fz)
        go_wp2_with fail
        go_roundg (gk - 1)
        case measure => omega
        case rel => first | exact ⟨1, rfl, by omega, by omega, by omega, HE.out.put _ _, G.out.trans (grown_put _ _ _)⟩ | exact ⟨2, rfl, by omega, by omega, by omega, HE.out.put _ _, G.out.trans (grown_put _ _ _)⟩ | exact ⟨3, rfl, by omega, by omega, by omega, HE.out.put _ _, G.out.trans (grown_put _ _ _)⟩ | exact ⟨4, rfl, by omega, by omega, by omega, HE.out.put _ _, G.out.trans (grown_put _ _ _)⟩
    · have e : i = 4 := by omega
      subst e
      go_wp2_with fail
      go_end0
      exact ⟨rfl, HE.out, G.out⟩
end Go.Proofs.YtgjjdfhoakailaaGreat
namespace Go.Proofs.YtgjjdfhoakailaaGreat
open Go.RowKit Go.Maps Go.Sort Go.Shelf
set_option linter.unusedVariables false
set_option linter.unusedSimpArgs false

/-- What an item's kind has of it. -/
def bareI (i : It) : It := if i.kind = 1 then ⟨i.kind, i.key, i.pl, 0, 0, zSl⟩ else if i.kind = 2 then ⟨i.kind, zKey, zPl, i.snap, i.unit, i.sl⟩ else if i.kind = 3 then ⟨i.kind, zKey, zPl, i.snap, 0, zSl⟩ else ⟨i.kind, zKey, zPl, 0, 0, zSl⟩
def fineI (i : It) : Bool :=
  if i.kind = 1 then inB i.pl.pos 0 262144 && inB i.pl.sec 1 1024 && inB i.pl.uni 1 16 && inB i.pl.ref 1 2147483647
  else if i.kind = 2 then inB i.snap 0 1073741824 && inB i.unit 0 511 && inB i.sl.off 0 15 && inB i.sl.mask 1 255
  else if i.kind = 3 then inB i.snap 1 1073741824 else false
def rightI (i : It) : Bool := fineI i && decide (bareI i = i)
structure EnC (w : World) (ib rb eb bb : Nat) (i b : It) (w' : World) : Prop where
  item : Blk w' ib 56 (itC i).toArray
  res : EntB w' rb
  ent : EntB w' eb
  bare : Blk w' bb 56 (itC b).toArray
  low : Below w.heap.size w w'
  lo : w.heap.size ≤ ib ∧ ib < rb ∧ rb < eb ∧ eb < bb
section
variable {w w' w'' : World} {ib rb eb bb : Nat} {i b b' : It}
theorem EnC.below (h : EnC w ib rb eb bb i b w') (hb : Below w'.heap.size w' w'') : EnC w ib rb eb bb i b w'' :=
  ⟨h.item.below hb h.item.lt, h.res.below hb, h.ent.below hb, h.bare.below hb h.bare.lt, below_chain h.low hb, h.lo⟩
theorem EnC.turnEnt (h : EnC w ib rb eb bb i b w') (he : EntB w'' eb) (hg : w'.grownBy w'' (some eb)) : EnC w ib rb eb bb i b w'' := by
  have h1 := h.lo
  exact ⟨h.item.grown hg (by simp; omega), h.res.grown hg (by simp; omega), he, h.bare.grown hg (by simp; omega), bl_g h.low hg (by omega), h1⟩
theorem EnC.turnBare (h : EnC w ib rb eb bb i b w') (he : Blk w'' bb 56 (itC b').toArray) (hg : w'.grownBy w'' (some bb)) : EnC w ib rb eb bb i b' w'' := by
  have h1 := h.lo
  exact ⟨h.item.grown hg (by simp; omega), h.res.grown hg (by simp; omega), h.ent.grown hg (by simp; omega), he, bl_g h.low hg (by omega), h1⟩
theorem EnC.rng (h : EnC w ib rb eb bb i b w') : w'.rangeAt ib 0 (itC i) := by have := h.item.range; rwa [toArr] at this
theorem EnC.brng (h : EnC w ib rb eb bb i b w') : w'.rangeAt bb 0 (itC b) := by have := h.bare.range; rwa [toArr] at this
end
theorem it_key (i : It) : ((itC i).drop 1).take (keyL i.key).length = keyL i.key := by
  show (keyL i.key ++ _).take _ = _
  rw [List.take_left]
theorem it_pl (i : It) : ((itC i).drop 33).take (plC i.pl).length = plC i.pl := by
  have e : itC i = (.int .u8 i.kind :: keyL i.key) ++ (plC i.pl ++ (.int .i64 i.snap :: .int .i64 i.unit :: slC i.sl)) := rfl
  rw [e, List.drop_left' (by simp [keyL_len]), List.take_left]
theorem it_tail (i : It) : (itC i).drop 37 = .int .i64 i.snap :: .int .i64 i.unit :: slC i.sl := by
  have e : itC i = (.int .u8 i.kind :: (keyL i.key ++ plC i.pl)) ++ (.int .i64 i.snap :: .int .i64 i.unit :: slC i.sl) := by simp [itC]
  rw [e, List.drop_left' (by simp [keyL_len, plC_len])]
theorem it_snap (i : It) : (itC i)[37]? = some (.int .i64 i.snap) := by
  have h := it_tail i
  have : (itC i)[37]? = ((itC i).drop 37)[0]? := by rw [List.getElem?_drop]
  rw [this, h]; rfl
theorem it_unit (i : It) : (itC i)[38]? = some (.int .i64 i.unit) := by
  have h := it_tail i
  have : (itC i)[38]? = ((itC i).drop 37)[1]? := by rw [List.getElem?_drop]
  rw [this, h]; rfl
theorem it_sl (i : It) : ((itC i).drop 39).take (slC i.sl).length = slC i.sl := by
  have h := it_tail i
  have : (itC i).drop 39 = ((itC i).drop 37).drop 2 := by rw [List.drop_drop]
  rw [this, h]
  show (slC i.sl).take _ = _
  rw [List.take_length]
theorem itC_cell {w : World} {ib : Nat} {i : It} (h : Blk w ib 56 (itC i).toArray) {j : Nat} {v : Value} (hv : (itC i)[j]? = some v) : w.cell? ⟨ib, j, none⟩ = some v := h.cell (by rw [List.getElem?_toArray]; exact hv)
def entZ (k : Int) (n : Nat) : List Int := k :: List.replicate n 0
theorem built_tk (k : Int) : Tryz.prog.built 152 [(0, .int .u8 k)] = some ((entZ k 39).map (Value.int .u8)).toArray := by kernel_rfl
theorem built_en (k : Int) : Tryz.prog.built 155 [(0, .agg ((entZ k 39).map (Value.int .u8)).toArray)] = some ((entZ k 79).map (Value.int .u8)).toArray := by kernel_rfl
theorem built_en0 : Tryz.prog.built 155 [] = some ((entZ 0 79).map (Value.int .u8)).toArray := by kernel_rfl
theorem ent_info (zs : List Int) (h : zs.length = 80) : (Tryz.prog.info? 155).map (·.size) = some (zs.map (Value.int .u8)).length := by rw [List.length_map, h]; kernel_rfl
theorem ent_one (zs : List Int) : ∀ v ∈ zs.map (Value.int .u8), v.oneCell' = true := by
  intro v hv
  obtain ⟨z, _, rfl⟩ := List.mem_map.1 hv
  rfl
theorem entZ_len (k : Int) : (entZ k 79).length = 80 := rfl
theorem zero_ent : ∃ zs : List Int, zs.length = 80 ∧ ∀ u : World, (zeroValue 155).run Tryz.prog u = .ok (.agg (zs.map (Value.int .u8)).toArray) u := ⟨entZ 0 79, rfl, fun u => Tryz.zeroValue155 u⟩
def EntPost (i : It) (w : World) (e : Ending) (w' : World) : Prop := ∃ zs : List Int, zs.length = 80 ∧ e = .returned (.tuple #[.agg (zs.map (Value.int .u8)).toArray, .int .i64 (if rightI i then 0 else 2)]) ∧ Below w.heap.size w w'
end Go.Proofs.YtgjjdfhoakailaaGreat
namespace Go.Proofs.YtgjjdfhoakailaaGreat
open Go.RowKit Go.Maps Go.Sort Go.Shelf
set_option linter.unusedVariables false
set_option linter.unusedSimpArgs false

section
variable {w : World} {ops : Array Oper} {rest : List Oper} {o : Oper} {a : Act} {Q : Exit → Act → World → Prop}
theorem wpl_slkey (hg : o.guard = none) (x : Operand) (hop : o.op = .slice 50 x none none none) (b off : Nat) (hx : a.eval x = .pointer (some ⟨b, off, none⟩)) (hK : wpList Tryz.prog ops Q rest (a.put o.dst (.slice (some ⟨b, off, none⟩) 32 32)) w) : wpList Tryz.prog ops Q (o :: rest) a w := by
  refine wpl_val hg _ ?_ hK
  unfold execOp
  simp only [hop, hx, Option.map_none, Sem.run_bind, slice_key, Result.andThen_ok, Sem.run_pure]
end
theorem bareI_B {i : It} (h : ItB i) : ItB (bareI i) := by
  obtain ⟨h0, h1, h2, h3, h4⟩ := h
  have z1 : PlB zPl := by unfold PlB i64B zPl; decide
  have z2 : SlB zSl := by unfold SlB i64B zSl; decide
  have z3 : i64B 0 := by unfold i64B; omega
  unfold bareI
  split
  · exact ⟨h0, h1, z3, z3, z2⟩
  · split
    · exact ⟨h0, z1, h2, h3, h4⟩
    · split
      · exact ⟨h0, z1, h2, z3, z2⟩
      · exact ⟨h0, z1, z3, z3, z2⟩
theorem ent_w {n a b : Int} {q : Bool} (h : q = inB n a b) (w : World) : Calls Tryz.prog 117 #[.int .i64 n, .int .i64 a, .int .i64 b] w fun e w' => e = .returned (.bool q) ∧ w = w' := by
  subst h
  exact entWithin_any n a b w
set_option maxRecDepth 100000 in
set_option maxHeartbeats 1000000 in
theorem entOf_0 {w : World} (i : It) (hb : ItB i) (hk : i.kind ≠ 1 ∧ i.kind ≠ 2 ∧ i.kind ≠ 3) : Calls Tryz.prog 102 #[.agg (itC i).toArray] w (EntPost i w) := by
  have HK := Lib.hid hk
  clear hk
  have HB := Lib.hid hb
  clear hb
  obtain ⟨zs0, hz0, hzv⟩ := zero_ent
  have HZ0 := Lib.hid hz0
  have HZV := Lib.hid hzv
  clear hz0 hzv
  go_enter Tryz.func102, Tryz.ntmps102
  go_upto_region 1 with (first
    | ((with_reducible show wpList _ _ _ (_ :: _) _ _); refine wpl_box rfl 56 (.tmp 0) (by rfl) _ (by rfl) ?_; intro w1 hk hg hz; have K1 := Lib.hid hk; have L1 := Lib.hid (bl_n (Below.refl _ w) hg); clear hk hg hz; simp only [Act.put, List.setIfInBounds_toArray, List.set_cons_zero, List.set_cons_succ])
    | ((with_reducible show wpList _ _ _ (_ :: _) _ _); refine wpl_alloc_zero rfl 155 (by rfl) HZV.out ?_; intro w2 hk hg hz; have K2 := Lib.hid (show EntB w2 w1.heap.size from ⟨zs0, HZ0.out, by simpa [Value.cells] using hk⟩); have L2 := Lib.hid (bl_n (Below.refl _ w1) hg); clear hk hg hz; simp only [Act.put, List.setIfInBounds_toArray, List.set_cons_zero, List.set_cons_succ]))
  have I2 := Lib.hid (K1.out.below L2.out K1.out.lt)
  have c0 := itC_cell I2.out (j := 0) (v := .int .u8 i.kind) rfl
  go_upto_region 2 with (first
    | ((with_reducible show wpList _ _ _ (_ :: _) _ _); refine wpl_mk rfl 152 #[(0, .tmp 15)] (by rfl) [(0, .int .u8 i.kind)] (by rfl) _ (built_tk i.kind) ?_; simp only [Act.put, List.setIfInBounds_toArray, List.set_cons_zero, List.set_cons_succ])
    | ((with_reducible show wpList _ _ _ (_ :: _) _ _); refine wpl_mk rfl 155 #[(0, .tmp 16)] (by rfl) [(0, .agg ((entZ i.kind 39).map (Value.int .u8)).toArray)] (by rfl) _ (built_en i.kind) ?_; simp only [Act.put, List.setIfInBounds_toArray, List.set_cons_zero, List.set_cons_succ])
    | ((with_reducible show wpList _ _ _ (_ :: _) _ _); refine wpl_alloc rfl 155 (by rfl) HZV.out 80 (by simp [Value.cells, HZ0.out]) ?_; intro w3 cs hk hc hg hz; have K3 := Lib.hid hk; have C3 := Lib.hid hc; have L3 := Lib.hid (bl_n (Below.refl _ w2) hg); clear hk hc hg hz; simp only [Act.put, List.setIfInBounds_toArray, List.set_cons_zero, List.set_cons_succ])
    | ((with_reducible show wpList _ _ _ (_ :: _) _ _); refine wpl_over rfl 155 (.tmp 4) (.tmp 17) (by rfl) w2.heap.size ((entZ i.kind 79).map (Value.int .u8)) (by rfl) (by rfl) _ cs K3.out (ent_info _ rfl) (by rw [List.length_map, entZ_len, C3.out]) (ent_one _) ?_; intro w4 hk hg hz; have K4 := Lib.hid (show EntB w4 w2.heap.size from ⟨_, rfl, hk⟩); have L4 := Lib.hid (bl_g L3.out hg (Nat.le_refl _)); clear hk hg hz; simp only [Act.put, List.setIfInBounds_toArray, List.set_cons_zero, List.set_cons_succ]))
  have I4 := Lib.hid (I2.out.below L4.out I2.out.lt)
  have R4 := Lib.hid (K2.out.below L4.out)
  refine wp_region_qs (fun _ _ => True) [(0, some 0), (1, some 0), (2, some 0), (3, some 0), (4, some 0), (5, some 0)] (by kernel_rfl) (by kernel_rfl) (by kernel_rfl) (by kernel_rfl) (by kernel_rfl) (fun _ _ _ _ _ h => h) trivial ?_
  simp only [List.map_cons, List.map_nil, List.getD_cons_succ, List.getD_cons_zero]
  (repeat (first | ((first | (refine qs_run (v := .slice (some ⟨w2.heap.size, 1, none⟩) 39 39) (by rfl) (fun j w' hS => by unfold execOp; simp only [Option.map_some, Option.map_none]; show Sem.run _ ((Instr.sliceAt 152 (.pointer (some ⟨w2.heap.size, 0, none⟩)) (some (.int .i64 1)) none none) >>= fun v => pure (Next.value v)) w' = _; rw [Sem.run_bind, slice_tkey]; rfl) ?_) | (refine qs_run (v := .slice (some ⟨w2.heap.size, 40, none⟩) 40 40) (by rfl) (fun j w' hS => by unfold execOp; simp only [Option.map_some, Option.map_none]; show Sem.run _ ((Instr.sliceAt 153 (.pointer (some ⟨w2.heap.size, 40, none⟩)) none none none) >>= fun v => pure (Next.value v)) w' = _; rw [Sem.run_bind, slice_tval]; rfl) ?_)); simp only [Act.put, List.setIfInBounds_toArray, List.set_cons_zero, List.set_cons_succ]) | (refine qs_now (v := ?_) (by rfl) ?_ ?_; rotate_left 1; (· (intro w' hS; go_simp; (try (simp only [↓IntWalk.iteOmega]; go_simp)); (try simp (disch := omega) only [IntWalk.i64_in]); try with_reducible rfl)); simp only [Act.put, List.setIfInBounds_toArray, List.set_cons_zero, List.set_cons_succ]) | (refine qs_run (v := ?_) (by rfl) ?_ ?_; rotate_left 1; (· (intro j w' hS; go_simp; (try (simp only [↓IntWalk.iteOmega]; go_simp)); (try simp (disch := omega) only [IntWalk.i64_in]); try with_reducible rfl)); simp only [Act.put, List.setIfInBounds_toArray, List.set_cons_zero, List.set_cons_succ]) | (refine qs_mid (v := ?_) (by rfl) ?_ ?_; rotate_left 1; (· (intro j w' hj1 hj2 hS; go_simp; (try (simp only [↓IntWalk.iteOmega]; go_simp)); (try simp (disch := omega) only [IntWalk.i64_in]); try with_reducible rfl)); simp only [Act.put, List.setIfInBounds_toArray, List.set_cons_zero, List.set_cons_succ]) | (refine qs_skip (by rfl) ?_; simp only [Act.put, List.setIfInBounds_toArray, List.set_cons_zero, List.set_cons_succ])))
  refine qs_nil ?_
  obtain ⟨w5, hw5⟩ : ∃ v, v = w4.drew := ⟨_, rfl⟩
  have L5 := Lib.hid (show Below w4.heap.size w4 w5 by rw [hw5]; exact (Below.refl _ _).drew)
  rw [← hw5]
  clear hw5
  have I5 := Lib.hid (I4.out.below L5.out I4.out.lt)
  have R5 := Lib.hid (R4.out.below L5.out)
  have E5 := Lib.hid (K4.out.below L5.out)
  clear c0
  have c0 := itC_cell I5.out (j := 0) (v := .int .u8 i.kind) rfl
  go_upto_region 4 with (first
    | ((with_reducible show wpList _ _ _ (_ :: _) _ _); refine wpl_mk rfl 56 #[(0, .tmp 23)] (by rfl) [(0, .int .u8 i.kind)] (by rfl) _ (built_kind i.kind) ?_; simp only [Act.put, List.setIfInBounds_toArray, List.set_cons_zero, List.set_cons_succ])
    | ((with_reducible show wpList _ _ _ (_ :: _) _ _); refine wpl_alloc rfl 56 (by rfl) Tryz.zeroValue56 73 zero_It_len ?_; intro w6 cs hk hc hg hz; have K6 := Lib.hid hk; have C6 := Lib.hid hc; have L6 := Lib.hid (bl_n (Below.refl _ w5) hg); clear hk hc hg hz; simp only [Act.put, List.setIfInBounds_toArray, List.set_cons_zero, List.set_cons_succ])
    | ((with_reducible show wpList _ _ _ (_ :: _) _ _); refine wpl_over rfl 56 (.tmp 7) (.tmp 24) (by rfl) w5.heap.size (itC ⟨i.kind, zKey, zPl, 0, 0, zSl⟩) (by rfl) (by rfl) _ cs K6.out (itC_info _) (by rw [itC_len, C6.out]) (itC_one _) ?_; intro w7 hk hg hz; have K7 := Lib.hid hk; have L7 := Lib.hid (bl_g L6.out hg (Nat.le_refl _)); clear hk hg hz; simp only [Act.put, List.setIfInBounds_toArray, List.set_cons_zero, List.set_cons_succ]))
  have C7 := Lib.hid (show EnC w w.heap.size w1.heap.size w2.heap.size w5.heap.size i ⟨i.kind, zKey, zPl, 0, 0, zSl⟩ w7 from
    ⟨I5.out.below L7.out I5.out.lt, R5.out.below L7.out, E5.out.below L7.out, K7.out, below_chain (below_chain (below_chain (below_chain L1.out L2.out) L4.out) L5.out) L7.out, Nat.le_refl _, I2.out.lt |> fun _ => by have := K1.out.lt; omega, by have := K2.out.lt; omega, by have := K4.out.lt; have := L5.out.size; omega⟩)
  clear I5 R5 E5 K7 L7 K6 C6 L6 L5 I4 R4 K4 L4 K3 C3 L3 I2 K2 L2 K1 L1 HZV HZ0 c0
  generalize w1.heap.size = rb at C7 ⊢
  generalize w2.heap.size = eb at C7 ⊢
  generalize w5.heap.size = bb at C7 ⊢
  obtain ⟨ib, hib⟩ : ∃ b, b = w.heap.size := ⟨_, rfl⟩
  rw [← hib] at C7 ⊢
  clear hib
  have c0 := itC_cell C7.out.item (j := 0) (v := .int .u8 i.kind) rfl
  obtain ⟨fb, hfb⟩ : ∃ b, b = fineI i := ⟨_, rfl⟩
  have HFb := Lib.hid hfb
  obtain ⟨bb0, hbd⟩ : ∃ b, b = bareI i := ⟨_, rfl⟩
  have HBd := Lib.hid hbd
  have HBb := Lib.hid (show ItB bb0 by rw [hbd]; exact bareI_B HB.out)
  clear hfb hbd
  have b1 : (i.kind == 1) = false := beq_eq_false_iff_ne.2 HK.out.1
  have b2 : (i.kind == 2) = false := beq_eq_false_iff_ne.2 HK.out.2.1
  have b3 : (i.kind == 3) = false := beq_eq_false_iff_ne.2 HK.out.2.2
  have hf : fb = false := by rw [HFb.out]; unfold fineI; rw [if_neg HK.out.1, if_neg HK.out.2.1, if_neg HK.out.2.2]
  have HC := Lib.hid (show EnC w ib rb eb bb i bb0 w7 from by rw [HBd.out]; unfold bareI; rw [if_neg HK.out.1, if_neg HK.out.2.1, if_neg HK.out.2.2]; exact C7.out)
  clear C7
  go_upto_region 28 with fail
  obtain ⟨wc, hwc⟩ : ∃ v, v = w7 := ⟨_, rfl⟩
  have C := Lib.hid (show EnC w ib rb eb bb i bb0 wc by rw [hwc]; exact HC.out)
  rw [← hwc]
  clear hwc HC c0
  obtain ⟨zr, hzr, hrb⟩ := C.out.res
  have RB := Lib.hid hrb
  have HZr := Lib.hid hzr
  have HLo := Lib.hid (show w.heap.size ≤ rb by have := C.out.lo; omega)
  have HRt := Lib.hid (show rightI i = false by unfold rightI; rw [← HFb.out, hf]; rfl)
  clear hrb hzr hf
  go_wp2_with (first
    | ((with_reducible show wpList _ _ _ (_ :: _) _ _); refine wpl_mk rfl 155 #[] (by rfl) [] (by rfl) _ built_en0 ?_; simp only [Act.put, List.setIfInBounds_toArray, List.set_cons_zero, List.set_cons_succ])
    | ((with_reducible show wpList _ _ _ (_ :: _) _ _); refine wpl_over rfl 155 (.tmp 2) (.tmp 155) (by rfl) rb ((entZ 0 79).map (Value.int .u8)) (by rfl) (by rfl) _ _ RB.out (ent_info _ rfl) (by have h := HZr.out; simp [entZ_len, h]) (ent_one _) ?_; intro w90 hk hg hz; have K90 := Lib.hid hk; have L90 := Lib.hid (bl_g C.out.low hg HLo.out); clear hk hg hz; simp only [Act.put, List.setIfInBounds_toArray, List.set_cons_zero, List.set_cons_succ]))
  refine bodyPost_ret (results_blk_tmp rfl _ rb rfl _ _ K90.out _ Tryz.underlying155 rfl 80 (by kernel_rfl) rfl) rfl ?_
  exact ⟨entZ 0 79, rfl, by rw [HRt.out]; rfl, L90.out⟩
end Go.Proofs.YtgjjdfhoakailaaGreat
