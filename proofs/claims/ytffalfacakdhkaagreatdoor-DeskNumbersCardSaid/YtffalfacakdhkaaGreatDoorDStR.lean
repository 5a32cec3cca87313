/-
  what this claim needs of: StR (written by cut.py).
-/
import Derived.Test.YtffalfacakdhkaaGreatDoorDStM
import Derived.Great.BuildSlice
import Derived.KernelRfl
namespace Go.Proofs.YtffalfacakdhkaaGreatDoor
open Go.RowKit Go.Maps
set_option linter.unusedVariables false
set_option linter.unusedSimpArgs false

theorem own_keptR {w w' : World} {base n sz : Nat} {e : TypeId} {v : Value} {xs : List Value} {r : Option Nat} (h : w.ownsRow base e sz v n xs) (hg : w.grownBy w' r) (ha : ∀ b, r = some b → v.ownBlock ≠ some b) : w'.ownsRow base e sz v n xs :=
 h.kept hg (by
  cases r with
  | none => cases hv : v.ownBlock <;> simp
  | some b => exact .inr (ha b rfl))
theorem own_belowR {w w' : World} {base n sz : Nat} {e : TypeId} {v : Value} {xs : List Value} (h : w.ownsRow base e sz v n xs) (hb : Below w.heap.size w w') : w'.ownsRow base e sz v n xs := by
 refine ⟨h.1, h.2.imp id ?_⟩
 rintro ⟨g, cap, cur, e1, a1, a2, r⟩
 have h3 : Blk w g e cur := a2
 exact ⟨g, cap, cur, e1, a1, h3.below hb h3.lt, r⟩
theorem own_loR {w : World} {base base' : Nat} {e : TypeId} {size n : Nat} {v : Value} {xs : List Value} (h : w.ownsRow base' e size v n xs) (hb : base ≤ base') : w.ownsRow base e size v n xs := by
 refine ⟨h.1, h.2.imp id ?_⟩
 rintro ⟨g, cap, cur, e1, a1, r⟩
 exact ⟨g, cap, cur, e1, Nat.le_trans hb a1, r⟩
/-- An owned row's block is no block of another type, and no map. -/
theorem own_apartI {w : World} {base base' n n' sz sz' : Nat} {e e' : TypeId} {v v' : Value} {xs xs' : List Value} (h : w.ownsRow base e sz v n xs) (h' : w.ownsRow base' e' sz' v' n' xs') (hne : e ≠ e') : ∀ b, v'.ownBlock = some b → v.ownBlock ≠ some b := by
 intro b hb hv
 rcases h.2 with ⟨rfl, _⟩ | ⟨g, cap, cur, rfl, _, h1, _⟩
 ·cases hv
 ·rcases h'.2 with ⟨rfl, _⟩ | ⟨g', cap', cur', rfl, _, h1', _⟩
  ·cases hb
  ·injection hv with hv
   injection hb with hb
   simp only at hv hb
   subst hv hb
   rw [h1] at h1'
   injection h1' with h1'
   injection h1' with _ h1'
   exact hne h1'
theorem own_blk {w : World} {base n sz g : Nat} {e t : TypeId} {v : Value} {xs : List Value} {cs : Array Value} (h : w.ownsRow base e sz v n xs) (h' : Blk w g t cs) (hne : e ≠ t) : v.ownBlock ≠ some g := by
 intro hv
 rcases h.2 with ⟨rfl, _⟩ | ⟨g', cap, cur, rfl, _, h1, _⟩
 ·cases hv
 ·injection hv with hv
  simp only at hv
  subst hv
  unfold Blk at h'
  rw [h1] at h'
  injection h' with h'
  injection h' with _ h'
  exact hne h'
theorem own_at {w : World} {base n sz : Nat} {e : TypeId} {v : Value} {xs : List Value} (h : w.ownsRow base e sz v n xs) : ∀ b, v.ownBlock = some b → base ≤ b ∧ b < w.heap.size := by
 intro b hv
 rcases h.2 with ⟨rfl, _⟩ | ⟨g', cap, cur, rfl, h0, h1, _⟩
 ·cases hv
 ·injection hv with hv
  simp only at hv
  subst hv
  exact ⟨h0, Blk.lt (t := e) (cs := cur) h1⟩
section
variable {P : Program} {w : World} {ops : Array Oper} {rest : List Oper} {o : Oper} {a : Act} {Q : Exit → Act → World → Prop}
/-- A slice literal of one element. -/
theorem wpl_lit1 (hg : o.guard = none) (t e : TypeId) (x : Operand) (hop : o.op = .buildSlice t 1 #[(0, x)]) (vs : List Value) (hx : a.eval x = .agg vs.toArray) (hu : P.underlying t = some (.slice e)) {z : Value} {bytes : Nat}
  (hi : (P.info? e).map (fun i => (i.zero, i.size, i.bytes)) = some (some z, vs.length, bytes)) (hz : z.cells.size = vs.length) (hpos : 0 < vs.length) (hsm : vs.length ≤ 1000000)
  (hK : ∀ w1, Blk w1 w.heap.size e vs.toArray → w.grownBy w1 none → w1.heap.size = w.heap.size + 1 → wpList P ops Q rest (a.put o.dst (.slice (some ⟨w.heap.size, 0, none⟩) 1 1)) w1) : wpList P ops Q (o :: rest) a w := by
 obtain ⟨i0, hi', hz0, hz1, hz2⟩ := info_parts hi
 refine wpList_buildSlice hg t e 1 #[(0, x)] hop vs.toArray i0 z hu hi' hz0 (by rw [hz1]; omega) (by rw [hz1]; omega) ?_ (hK _ (Blk.made _ _ _) (World.grownBy_alloc w _ none) (by simp))
 rw [Array.toList_map]
 simp only [List.map_cons, List.map_nil]
 rw [hx, hz1, fill_cons 0 vs (by simp [Value.cells]) (by simp) (by simp)]
 unfold Instr.fill
 rw [putAt_all _ _ (by simp)]
end
/-- The address of an element of a slice. -/
theorem wpl_sidx {P : Program} {w : World} {ops : Array Oper} {rest : List Oper} {o : Oper} {a : Act} {Q : Exit → Act → World → Prop} (hg : o.guard = none) (t : TypeId) (x i : Operand) (hop : o.op = .indexAddr t x i) {e : TypeId} (hu : P.underlying t = some (.slice e)) {sz : Nat} (hz : ∀ u : World, (sizeOf e).run P u = .ok sz u)
  (b off n c j : Nat) (hx : a.eval x = .slice (some ⟨b, off, none⟩) n c) (hi : a.eval i = .int .i64 (j : Int)) (hj : j < n) (h : wpList P ops Q rest (a.put o.dst (.pointer (some ⟨b, off + j * sz, none⟩))) w) : wpList P ops Q (o :: rest) a w := by
 refine wpList_plain hg fun K hK => ?_
 unfold Oper.wp execOp
 have h1 : (0 : Int) ≤ (j : Int) ∧ (j : Int) < (n : Int) := by omega
 simp only [hop, hx, hi, Instr.indexAt, asIntOf, Sem.run_bind, Sem.run_pure, Result.andThen_ok, run_underlying hu, h1, and_self, if_true, hz, Int.toNat_natCast, Addr.add_mid]
 exact hK _ _ h
theorem info_It : (Tryz.prog.info? 231).map (fun i => (i.zero, i.size, i.bytes)) = some (some (.agg Tryz.zeroCells231), 73, 136) := by kernel_rfl
theorem zero_It_len : (Value.agg Tryz.zeroCells231).cells.size = 73 := by kernel_rfl
theorem itC_info (i : It) : (Tryz.prog.info? 231).map (·.size) = some (itC i).length := by rw [itC_len]; kernel_rfl
theorem it_has (i : It) : (Tryz.prog.info? 231).map (fun i => (i.zero, i.size, i.bytes)) = some (some (.agg Tryz.zeroCells231), (itC i).length, 136) := by rw [itC_len]; exact info_It
def itsC (l : List It) : List Value := l.flatMap itC
theorem itsC_one (l : List It) : ∀ v ∈ itsC l, v.oneCell' = true := by
 intro v hv
 obtain ⟨x, _, h⟩ := List.mem_flatMap.1 hv
 exact itC_one x v h
theorem itsC_append (l r : List It) : itsC (l ++ r) = itsC l ++ itsC r := by unfold itsC; rw [List.flatMap_append]
theorem itsC_single (i : It) : itsC [i] = itC i := by simp [itsC]
section
variable {w : World} {ops : Array Oper} {rest : List Oper} {o : Oper} {a : Act} {Q : Exit → Act → World → Prop}
theorem wpl_lit_it (hg : o.guard = none) (x : Operand) (hop : o.op = .buildSlice 223 1 #[(0, x)]) (i : It) (hx : a.eval x = .agg (itC i).toArray)
  (hK : ∀ w1, Blk w1 w.heap.size 231 (itC i).toArray → w.grownBy w1 none → w1.heap.size = w.heap.size + 1 → wpList Tryz.prog ops Q rest (a.put o.dst (.slice (some ⟨w.heap.size, 0, none⟩) 1 1)) w1) : wpList Tryz.prog ops Q (o :: rest) a w :=
 wpl_lit1 hg 223 231 x hop (itC i) hx Tryz.underlying223 (it_has i) (by rw [itC_len]; exact zero_It_len) (by rw [itC_len]; omega) (by rw [itC_len]; omega) hK
/-- append(out, x). -/
theorem wpl_app_it (hg : o.guard = none) (s x : Operand) (hop : o.op = .call { callee := .builtin .append, args := #[s, x], argTypes := #[223, 223] }) (base : Nat) (v : Value) (l : List It) (hs : a.eval s = v) (hown : w.ownsRow base 231 73 v l.length (itsC l))
  (g : Nat) (i : It) (hx : a.eval x = .slice (some ⟨g, 0, none⟩) 1 1) (hb : Blk w g 231 (itC i).toArray) (hn : l.length ≤ 1000000000) (hbase : base ≤ w.heap.size)
  (h : ∀ v' w1, w1.ownsRow base 231 73 v' (l ++ [i]).length (itsC (l ++ [i])) → w.grownBy w1 v.ownBlock → wpList Tryz.prog ops Q rest (a.put o.dst v') w1) : wpList Tryz.prog ops Q (o :: rest) a w := by
 refine app_src hg s x 223 hop base 231 _ 73 136 Tryz.underlying223 info_It zero_It_len (by omega) v l.length (itsC l) hs hown (.slice (some ⟨g, 0, none⟩) 1 1) 1 (itC i) hx ⟨_, 1, rfl, by rw [itC_len], fun _ => ⟨g, 0, rfl, hb.lt, fun j y hy => ?_⟩⟩ (itC_one i) (by omega) (by omega) hbase (fun v' w1 h1 h2 _ => h v' w1 ?_ h2)
 ·rw [Nat.zero_add]
  exact hb.cell (by rw [List.getElem?_toArray]; exact hy)
 ·rw [itsC_append, itsC_single, List.length_append]
  exact h1
/-- append(l, r...): the items of another row. -/
theorem wpl_app_its (hg : o.guard = none) (s x : Operand) (hop : o.op = .call { callee := .builtin .append, args := #[s, x], argTypes := #[223, 223] }) (base : Nat) (v : Value) (l : List It) (hs : a.eval s = v) (hown : w.ownsRow base 231 73 v l.length (itsC l))
  (u : Value) (r : List It) (hx : a.eval x = u) (hr : Src w 73 u r.length (itsC r)) (hn : l.length + r.length ≤ 1000000000) (hbase : base ≤ w.heap.size)
  (h : ∀ v' w1, w1.ownsRow base 231 73 v' (l ++ r).length (itsC (l ++ r)) → w.grownBy w1 v.ownBlock → wpList Tryz.prog ops Q rest (a.put o.dst v') w1) : wpList Tryz.prog ops Q (o :: rest) a w := by
 refine app_src hg s x 223 hop base 231 _ 73 136 Tryz.underlying223 info_It zero_It_len (by omega) v l.length (itsC l) hs hown u r.length (itsC r) hx hr (itsC_one r) (by omega) (by omega) hbase (fun v' w1 h1 h2 _ => h v' w1 ?_ h2)
 rw [itsC_append, List.length_append]
 exact h1
end
theorem built_it (l : List (Nat × Value)) : Tryz.prog.built 231 l = Instr.fill ([(0, 1), (1, 32), (33, 4), (37, 1), (38, 1), (39, 34)].toArray[·]?) (itC ⟨0, zKey, zPl, 0, 0, zSl⟩).toArray l := by kernel_rfl
theorem put_mid {l l' : List Value} (A B vs vs' : List Value) (o : Nat) (hl : l = A ++ (vs ++ B)) (hl' : l' = A ++ (vs' ++ B)) (ho : A.length = o) (hv : vs'.length = vs.length) : putAt l.toArray o vs' = l'.toArray := by
 subst ho hl hl'
 rw [putAt_list _ _ _ (by simp; omega), toArr]
 refine congrArg List.toArray ?_
 rw [List.take_left, List.drop_append, List.drop_eq_nil_of_le (by omega), hv]
 simp
theorem put_kind (i : It) (k : Int) : putAt (itC i).toArray 0 [.int .u8 k] = (itC { i with kind := k }).toArray :=
 put_mid [] (keyL i.key ++ (plC i.pl ++ (.int .i64 i.snap :: .int .i64 i.unit :: slC i.sl))) [.int .u8 i.kind] _ 0 rfl rfl rfl rfl
theorem put_key (i : It) (K : Key) : putAt (itC i).toArray 1 (keyL K) = (itC { i with key := K }).toArray :=
 put_mid [.int .u8 i.kind] (plC i.pl ++ (.int .i64 i.snap :: .int .i64 i.unit :: slC i.sl)) (keyL i.key) _ 1 rfl rfl rfl (by rw [keyL_len, keyL_len])
theorem put_pl (i : It) (p : Pl) : putAt (itC i).toArray 33 (plC p) = (itC { i with pl := p }).toArray :=
 put_mid (.int .u8 i.kind :: keyL i.key) (.int .i64 i.snap :: .int .i64 i.unit :: slC i.sl) (plC i.pl) _ 33 (by simp [itC]) (by simp [itC]) (by simp [keyL_len]) rfl
theorem put_snap (i : It) (s : Int) : putAt (itC i).toArray 37 [.int .i64 s] = (itC { i with snap := s }).toArray :=
 put_mid (.int .u8 i.kind :: (keyL i.key ++ plC i.pl)) (.int .i64 i.unit :: slC i.sl) [.int .i64 i.snap] _ 37 (by simp [itC]) (by simp [itC]) (by simp [keyL_len, plC_len]) rfl
theorem put_unit (i : It) (s : Int) : putAt (itC i).toArray 38 [.int .i64 s] = (itC { i with unit := s }).toArray :=
 put_mid (.int .u8 i.kind :: (keyL i.key ++ (plC i.pl ++ [.int .i64 i.snap]))) (slC i.sl) [.int .i64 i.unit] _ 38 (by simp [itC]) (by simp [itC]) (by simp [keyL_len, plC_len]) rfl
theorem put_sl (i : It) (s : Sl) : putAt (itC i).toArray 39 (slC s) = (itC { i with sl := s }).toArray :=
 put_mid (.int .u8 i.kind :: (keyL i.key ++ (plC i.pl ++ [.int .i64 i.snap, .int .i64 i.unit]))) [] (slC i.sl) _ 39 (by simp [itC]) (by simp [itC]) (by simp [keyL_len, plC_len]) (by rw [slC_len, slC_len])
theorem built_ext (K : Key) (p : Pl) : Tryz.prog.built 231 [(0, .int .u8 1), (1, .agg (keyL K).toArray), (2, .agg (plC p).toArray)] = some (itC ⟨1, K, p, 0, 0, zSl⟩).toArray := by
 rw [built_it, fill_cons 0 [.int .u8 1] rfl rfl (by simp [itC_len]), put_kind, fill_cons 1 (keyL K) (by simp [Value.cells]) (by rw [keyL_len]; rfl) (by simp [itC_len, keyL_len]), put_key, fill_cons 33 (plC p) (by simp [Value.cells]) rfl (by simp [itC_len, plC_len]), put_pl]
 rfl
theorem built_sl (s u : Int) (x : Sl) : Tryz.prog.built 231 [(0, .int .u8 2), (3, .int .i64 s), (4, .int .i64 u), (5, .agg (slC x).toArray)] = some (itC ⟨2, zKey, zPl, s, u, x⟩).toArray := by
 rw [built_it, fill_cons 0 [.int .u8 2] rfl rfl (by simp [itC_len]), put_kind, fill_cons 37 [.int .i64 s] rfl rfl (by simp [itC_len]), put_snap, fill_cons 38 [.int .i64 u] rfl rfl (by simp [itC_len]), put_unit, fill_cons 39 (slC x) (by simp [Value.cells]) (by rw [slC_len]; rfl) (by simp [itC_len, slC_len]), put_sl]
 rfl
theorem built_sn (s : Int) : Tryz.prog.built 231 [(0, .int .u8 3), (3, .int .i64 s)] = some (itC ⟨3, zKey, zPl, s, 0, zSl⟩).toArray := by
 rw [built_it, fill_cons 0 [.int .u8 3] rfl rfl (by simp [itC_len]), put_kind, fill_cons 37 [.int .i64 s] rfl rfl (by simp [itC_len]), put_snap]
 rfl
end Go.Proofs.YtffalfacakdhkaaGreatDoor
