/-
  what this claim needs of: DkLaid, DkS, DkM, DkJ, DkU (written by cut.py).
-/
import Derived.Test.YtffalfacakdhkaaGreatDoorDDlPlain
import Derived.Test.YtffalfacakdhkaaGreatDoorRows
import Derived.OpenShut
import Derived.LaidMore
import Derived.LaidLaws
import Derived.ProofKit
import Derived.MakeChecks
import Derived.SizedLaws
import Derived.Shelf.Vars
import Derived.Lib.LaidTab
import Derived.Lay
import Derived.Stop.Joined
import Derived.Test.YtffalfacakdhkaaGreatDoorDStS6
import Derived.Test.YtffalfacakdhkaaGreatDoorDStW
import Derived.Test.YtffalfacakdhkaaGreatDoorDQnF4
import Derived.Test.YtffalfacakdhkaaGreatDoorDQnL
import Derived.Test.YtffalfacakdhkaaGreatDoorDStX
namespace Go.Proofs.YtffalfacakdhkaaGreatDoor
open Go.ChangeShapes Go.WideShapes Go.ChangeAt Go.RowKit
set_option linter.unusedVariables false

def laidL : List (String × DataW Unit) := [("internal/strconv.uint64pow10", Rows.laid_internal_strconv_uint64pow10), ("math/bits.deBruijn32tab", Rows.laid_math_bits_deBruijn32tab), ("math/bits.deBruijn64tab", Rows.laid_math_bits_deBruijn64tab), ("unicode/utf8.first", Rows.laid_unicode_utf8_first), ("unicode/utf8.acceptRanges", Rows.laid_unicode_utf8_acceptRanges), ("peatbank/sha.first", Rows.laid_peatbank_sha_first), ("peatbank/sha.rounds", Rows.laid_peatbank_sha_rounds), ("strconv.ErrSyntax", Rows.laid_strconv_ErrSyntax), ("strconv.ErrRange", Rows.laid_strconv_ErrRange), ("bytes.ErrTooLarge", Rows.laid_bytes_ErrTooLarge)]
theorem laid_next {P : Program} {n : String} {d : DataW Unit} {r : List (String × DataW Unit)} {ps : List MemPlace} {W : World} (h : DataW.LaidVars P W ((n, d) :: r) ps) : ∃ q, DataW.LaidVars P W r q := by
 obtain ⟨g0, t0, cs0, f0, p0, q0, hg0, ht0, hv0, hd0, hr, _⟩ := h
 exact ⟨q0, hr⟩
theorem laid_tab {P : Program} {n : String} {r : List (String × DataW Unit)} {ps : List MemPlace} {W : World} {k : IntKind} {zs : List Int} (h : DataW.LaidVars P W ((n, Lib.tabData k zs) :: r) ps) {g : Nat} {t e : TypeId} {N : Nat}
  (hg : P.globalNamed n = some g) (hty : (P.globals[g]?).map (·.type) = some t) (ht : P.underlying t = some (.array N e)) (he : P.underlying e = some (.int k)) (hce : P.cellsOf e = 1) (hct : P.cellsOf t = N) : Lib.TabIs P W n k zs := by
 obtain ⟨g', t', cs, fuel, p, q, hg', ht', hvar, hd, _, _⟩ := h
 obtain rfl := Option.some.inj (hg.symm.trans hg')
 obtain rfl := Option.some.inj (hty.symm.trans ht')
 unfold Lib.TabIs
 rw [hvar, ← Lib.cells_of_tab ht he hce hct hd]
theorem laid_iface {P : Program} {n nm : String} {d : DataW Unit} {r : List (String × DataW Unit)} {ps : List MemPlace} {W : World} (h : DataW.LaidVars P W ((n, .iface nm d) :: r) ps) {g : Nat} {t : TypeId} {ms : Array (String × TypeId)}
  (hg : P.globalNamed n = some g) (hty : (P.globals[g]?).map (·.type) = some t) (ht : P.underlying t = some (.interface ms)) : ∃ u v, W.var? P n = some #[.iface u v] := by
 obtain ⟨g', t', cs, fuel, p, q, hg', ht', hvar, hd, _, _⟩ := h
 obtain rfl := Option.some.inj (hg.symm.trans hg')
 obtain rfl := Option.some.inj (hty.symm.trans ht')
 obtain ⟨_, u, v, hc, _, _⟩ := iface_of_trod ht hd
 refine ⟨u, v, ?_⟩
 rw [hvar]
 congr 1
 apply Array.ext'
 exact hc
theorem lnt_of_laid {W : World} (h : laidMetH Tryz.prog laidL W) (hs : W.ShapedOpen Tryz.prog) : LnT W := by
 rw [MakeChecks.laidMetH_plain _ _ _ (by kernel_rfl)] at h
 obtain ⟨ps, h1, _, _⟩ := h
 have tTab : Lib.TabIs Tryz.prog W "internal/strconv.uint64pow10" .u64 Lib.pow10Tab :=
  laid_tab (k := .u64) (zs := Lib.pow10Tab) h1 (show Tryz.prog.globalNamed "internal/strconv.uint64pow10" = some 0 by kernel_rfl) (by kernel_rfl) Tryz.underlying189 Tryz.underlying105 (by kernel_rfl) (by kernel_rfl)
 obtain ⟨_, h2⟩ := laid_next h1
 obtain ⟨_, h3⟩ := laid_next h2
 obtain ⟨_, h4⟩ := laid_next h3
 obtain ⟨_, h5⟩ := laid_next h4
 obtain ⟨_, h6⟩ := laid_next h5
 obtain ⟨_, h7⟩ := laid_next h6
 obtain ⟨_, h8⟩ := laid_next h7
 have tSyn := laid_iface h8 (show Tryz.prog.globalNamed "strconv.ErrSyntax" = some 6 by kernel_rfl) (by kernel_rfl) Tryz.underlying40
 obtain ⟨_, h9⟩ := laid_next h8
 have tRng := laid_iface h9 (show Tryz.prog.globalNamed "strconv.ErrRange" = some 7 by kernel_rfl) (by kernel_rfl) Tryz.underlying40
 exact ⟨tTab, tSyn, tRng, cell_of_shapedOpen_int (zero := #[.int .i64 0]) (t := 3) hs (of_decide_eq_true (by kernel_rfl)) (by kernel_rfl) rfl (by kernel_rfl) (by kernel_rfl) Tryz.underlying3⟩
/-- A world that meets the condition. -/
theorem door_metL (os : Os) (args : Array Value) : laidMetH Tryz.prog laidL ((World.laidAll Tryz.prog os laidL).forCall (fun _ _ => 0) ⟨#[], args, []⟩).memory := by
 rw [MakeChecks.laidMetH_plain _ _ _ (by kernel_rfl)]
 exact laidMet_laidAll _ (by kernel_rfl) (by kernel_rfl)
/-- The wrap, with what is listed, the reach and the world's shape handed on. -/
theorem returns_and_shaped {H : Type} {enc : TypeId × Value → H} {a : Assume} {C : Checked} {os : Os} {f : FuncId} {fn : Func} {s : ChangeSpec} {conds : List PathCond} {apart fresh handsOn again : Bool} {X : World → Array Value → Prop}
  (hX : ∀ (w w' : World) (args : Array Value), w.heap = w'.heap → X w args → X w' args)
  (own : ownKnob C.prog.godebug = none) (started : os.Started) (noInit : C.prog.inits.idxOf? f = none) (hfn : C.prog.funcs[f]? = some fn)
  (witness : ∃ (w : World) (tape : Tape) (i : Input), w.os = os ∧ (w.forCall tape i).Shaped C.prog ∧ i.vars = [] ∧ Input.okWide C.prog (w.forCall tape i) .any w.heap.size f i ∧
   ((s.pre enc C.prog fn conds apart (w.forCall tape i).memory i.args ∧ X (w.forCall tape i).memory i.args) ∧ sizedMet enc C.prog fn (OpenSpec.ofChange s) apart (w.forCall tape i).memory i.args) ∧ a.holds C.prog (lone (Frame.enter C.prog f i.args .normal) [] (w.forCall tape i)))
  (contract : ∀ (W : World) (base : Nat) (args : Array Value) (ds gs : List (DataW H)) (before : List MemPlace),
   (∀ (j : Nat) t v, fn.params[j]? = some t → args[j]? = some v → Value.okWide C.prog W .any base t v) →
   DataW.Whole enc C.prog fn.params.toList s.vars apart W args.toList ds gs before →
   (DataW.weightsEach C.prog (fn.params.toList ++ s.plain.varTypes C.prog) (ds ++ gs)).all (· ≤ reachBytes) = true → X W args → W.ShapedOpen C.prog →
   Calls C.prog f args W fun e W' => ∃ v, e = .returned v ∧ s.post enc C.prog fn apart fresh handsOn again W args v W') :
  ReturnsInHanded a C os f .any (fun w args => (s.pre enc C.prog fn conds apart w args ∧ X w args) ∧ sizedMet enc C.prog fn (OpenSpec.ofChange s) apart w args) (s.post enc C.prog fn apart fresh handsOn again) := by
 refine returnsInHanded_of_calls own started noInit witness ?_
 intro w tape i _ hsh _ hok hpre _
 obtain ⟨_, _, _, fn', hfn', _, _, _, _, hval⟩ := hok
 have e : fn' = fn := Option.some.inj (hfn'.symm.trans hfn)
 subst e
 obtain ⟨⟨⟨ds, gs, before, hw, hc⟩, hx⟩, hz⟩ := hpre
 have hw' := DataW.Whole.of_heap (w' := w.forCall tape i) (by rfl) hw
 refine (contract (w.forCall tape i) w.heap.size i.args ds gs before hval hw' (hz.weights hw) (hX _ _ _ (by rfl) hx) hsh).mono fun e W' ⟨v, he, hp⟩ => ?_
 subst he
 exact ChangeSpec.post_blind hp
end Go.Proofs.YtffalfacakdhkaaGreatDoor
namespace Go.Proofs.YtffalfacakdhkaaGreatDoor
open Go.RowKit Go.Maps Go.Sort
set_option linter.unusedVariables false
set_option linter.unusedSimpArgs false

def allZ (M : SnM) : Prop := ∀ p ∈ M, p.2.2 = zF
theorem slIs_z (n : Nat) (id : Int) : slIs n zF id = [] := by
 unfold slIs
 rw [List.flatMap_eq_nil_iff]
 intro u _
 unfold slI
 exact if_pos rfl
theorem gAt_z {M : SnM} (h : allZ M) (id : Int) : gAt zF M id = zF := by
 unfold gAt ofS
 split
 ·rfl
 ·cases hg : aget M id with
  | none => rfl
  | some p => exact h _ (aget_mem hg)
theorem mSl_z (n : Nat) {M : SnM} (h : allZ M) (ids : List Int) : mSl n zF M ids = [] := by
 unfold mSl
 rw [List.flatMap_eq_nil_iff]
 intro id _
 rw [gAt_z h, slIs_z]
theorem countC_sn (l : List Int) : countC (l.map snI) = [] := by
 have h : cntL (l.map snI) = [] := by
  unfold cntL
  have : (l.map snI).filter (fun i => i.kind == 2) = [] := by
   rw [List.filter_eq_nil_iff]
   intro i hi
   obtain ⟨x, _, rfl⟩ := List.mem_map.1 hi
   simp [snI]
  rw [this]
  rfl
 unfold countC
 rw [h]
 simp [sumF, rowCn, nz]
theorem count_z (n : Nat) {M : SnM} (h : allZ M) : countC (mItems n zF M) = [] := by
 unfold mItems
 rw [mSl_z n h, List.nil_append, countC_sn]
theorem delta_z : deltaC [] [] = [] := by simp [deltaC, deltaL, negL, posL, sumF, rowCn, nz]
theorem fix_z (n : Nat) {M M' : SnM} (h : allZ M) (h' : allZ M') : fixE [] (deltaC (countC (mItems n zF M)) (countC (mItems n zF M'))) = [] := by
 rw [count_z n h, count_z n h', delta_z]
 rfl
theorem allZ_put {M : SnM} (h : allZ M) (id : Int) (g : Nat) : allZ (aput M id (g, zF)) := by
 intro p hp
 unfold aput at hp
 rcases List.mem_cons.1 hp with rfl | hp
 ·rfl
 ·exact h p (mem_adel hp)
theorem allZ_del {M : SnM} (h : allZ M) (id : Int) : allZ (adel M id) := fun p hp => h p (mem_adel hp)
def opS (k s : Int) : OpV := ⟨k, 0, 0, s, [], []⟩
def opSC (k s : Int) : Array Value := #[.int .u8 k, .int .i64 0, .int .i64 0, .int .i64 s, .slice none 0 0, .slice none 0 0]
theorem opS_right (k s : Int) (hk : k = 3 ∨ k = 4) (hs : 1 ≤ s ∧ s ≤ 1073741824) : rightB (opS k s) = true :=
 (r3_is (by rcases hk with rfl | rfl <;> simp [opS])).2 ⟨rfl, rfl, rfl, rfl, hs⟩
theorem opS_at (w : World) (k s : Int) : OpAt w (opS k s) none 0 none 0 := ⟨⟨none, 0, rfl, rfl, fun h => absurd h (by simp [opS])⟩, ⟨none, 0, rfl, rfl, fun h => absurd h (by simp [opS])⟩⟩
section
variable {w : World} {si xi bx mi bs n : Nat} {M : SnM}
theorem do_snap (h : StIs w si xi bx mi bs n [] zF M) (hM : IdsOk M) (hz : allZ M) (s : Int) (hs : 1 ≤ s ∧ s ≤ 1073741824) (hn : aget M s = none) (hl : M.length < 8) :
  Calls Tryz.prog 167 #[.pointer (some ⟨si, 0, none⟩), .agg (opSC 3 s)] w fun e w' => ∃ g, e = .returned (.int .i64 0) ∧ StIs w' si xi bx mi bs n [] zF (aput M s (g, zF)) ∧ Tch [bx, mi, bs] w w' := by
 refine (do_gen h (opS 3 s) none 0 none 0 (opS_at w 3 s) (fun h => absurd h (by simp [opS])) (fun h => absurd h (by simp [opS])) (by simp [opS]) (by simp [opS]) (by simp) hM (by omega) (by intro q hq; cases hq) (by simp [opS]) (opS_right 3 s (.inl rfl) hs) 244 rfl (enter_run Tryz.func244 (by kernel_rfl) rfl) (fun w si xi bx mi bs n E f M h A c B d h0 hA hB hn hm hE => (snapshot_any h (opS 3 s) A c B d trivial).mono (by
  rintro e w' ⟨r, f', M', rfl, hR, h1, h2⟩
  exact ⟨_, _, _, _, rfl, .inr (.inr (.inl ⟨rfl, rfl, hR⟩)), h1, tch_three2 h2⟩))).mono ?_
 rintro e w' ⟨r, E', f', M', rfl, hd, hS, hT⟩
 rcases hd with ⟨hb, _⟩ | ⟨_, E1, hst, hE⟩
 ·rw [opS_right 3 s (.inl rfl) hs] at hb
  cases hb
 ·rcases hst with ⟨hk, _⟩ | ⟨hk, _⟩ | ⟨_, rfl, rfl, rfl, hm⟩ | ⟨hk, _⟩ | ⟨hk, _⟩
  ·simp [opS] at hk
  ·simp [opS] at hk
  ·have h0 : snapE M s = 0 := by
    unfold snapE
    rw [if_neg (by omega), hn, if_neg (by simp), if_neg (by omega)]
   have h0' : snapE M (opS 3 s).snap = 0 := h0
   rw [h0'] at hE hm
   rcases hm with ⟨hm, _⟩ | ⟨_, g, rfl⟩
   ·exact absurd rfl hm
   ·rw [if_pos rfl] at hE
    have hM' : allZ (aput M (opS 3 s).snap (g, zF)) := allZ_put hz _ g
    rw [fix_z n hz hM'] at hE
    subst hE
    exact ⟨g, by rw [h0'], hS, hT⟩
  ·simp [opS] at hk
  ·simp [opS] at hk
theorem do_drop (h : StIs w si xi bx mi bs n [] zF M) (hM : IdsOk M) (hz : allZ M) (s : Int) (hs : 1 ≤ s ∧ s ≤ 1073741824) (hn : (aget M s).isSome = true) (hl : M.length ≤ 8) :
  Calls Tryz.prog 167 #[.pointer (some ⟨si, 0, none⟩), .agg (opSC 4 s)] w fun e w' => e = .returned (.int .i64 0) ∧ StIs w' si xi bx mi bs n [] zF (adel M s) ∧ Tch [bx, mi, bs] w w' := by
 refine (do_gen h (opS 4 s) none 0 none 0 (opS_at w 4 s) (fun h => absurd h (by simp [opS])) (fun h => absurd h (by simp [opS])) (by simp [opS]) (by simp [opS]) (by simp) hM (by omega) (by intro q hq; cases hq) (by simp [opS]) (opS_right 4 s (.inr rfl) hs) 245 rfl (enter_run Tryz.func245 (by kernel_rfl) rfl) (fun w si xi bx mi bs n E f M h A c B d h0 hA hB hn hm hE => (drop_st h (opS 4 s) A c B d (by have h1 : (opS 4 s).snap = s := rfl; omega)).mono (by
  rintro e w' ⟨r, f', M', rfl, ⟨rfl, rfl, rfl⟩, h1, h2⟩
  exact ⟨_, _, _, _, rfl, .inr (.inr (.inr (.inl ⟨rfl, rfl, rfl, rfl, rfl⟩))), h1, tch_three2 h2⟩))).mono ?_
 rintro e w' ⟨r, E', f', M', rfl, hd, hS, hT⟩
 rcases hd with ⟨hb, _⟩ | ⟨_, E1, hst, hE⟩
 ·rw [opS_right 4 s (.inr rfl) hs] at hb
  cases hb
 ·rcases hst with ⟨hk, _⟩ | ⟨hk, _⟩ | ⟨hk, _⟩ | ⟨_, rfl, rfl, rfl, rfl⟩ | ⟨hk, _⟩
  ·simp [opS] at hk
  ·simp [opS] at hk
  ·simp [opS] at hk
  ·have h0 : dropE M (opS 4 s).snap = 0 := by
    unfold dropE
    exact if_pos hn
   rw [h0, if_pos rfl, fix_z n hz (allZ_del hz _)] at hE
   subst hE
   exact ⟨by rw [h0], hS, hT⟩
  ·simp [opS] at hk
end
end Go.Proofs.YtffalfacakdhkaaGreatDoor
namespace Go.Proofs.YtffalfacakdhkaaGreatDoor
open Go.RowKit Go.Maps
set_option linter.unusedVariables false
set_option linter.unusedSimpArgs false
section
variable {P : Program} {w : World} {ops : Array Oper} {rest : List Oper} {o op : Oper} {a : Act} {Q : Exit → Act → World → Prop}
theorem wpl_setD (hgd : o.guard = none) (ty : TypeId) (x y : Operand) (ho : o.op = .store ty x y) (g off : Nat) (v : Value) (hx : a.eval x = .pointer (some ⟨g, off, none⟩)) (hy : a.eval y = v)
  (t : TypeId) (cs : Array Value) (hb : Blk w g t cs) (hi : (P.info? ty).map (·.size) = some 1) (hm : off < cs.size) (hc : v.cells = #[v]) (h1 : v.oneCell' = true)
  (h : ∀ w1, Blk w1 g t (cs.setIfInBounds off v) → w.grownBy w1 (some g) → w1.heap.size = w.heap.size → wpList P ops Q rest (a.put o.dst undef) w1) : wpList P ops Q (o :: rest) a w := by
 refine wpList_plain hgd fun K' hK' => ?_
 have hS : (storeVar ty ⟨g, off, none⟩ v).run P w = .ok () (w.setCells g off [v]) := by
  have := run_storeVar_mid (P := P) w g off ty #[v] (hb.isThere off 1 (by omega)) (by rw [hi]; rfl) (by simp [h1])
  rw [← this]
  unfold storeVar
  rw [hc]
  rfl
 unfold Oper.wp execOp
 simp only [ho, hx, hy, Instr.storeAt, Instr.sureAddr, Sem.run_bind, Sem.run_pure, Result.andThen_ok, hS]
 refine hK' _ _ (h _ ?_ (grown_setCells _ w off).1 (grown_setCells _ w off).2)
 have := Blk.puts [v] w cs off hb
 simpa [putAt] using this
end
theorem wpl_boxD {P : Program} {w : World} {ops : Array Oper} {rest : List Oper} {o : Oper} {a : Act} {Q : Exit → Act → World → Prop} (hg : o.guard = none) (t : TypeId) (x : Operand) (hop : o.op = .box t x) (v : Value) (hx : a.eval x = v) (hc : v.cells = #[v])
  (hK : ∀ w1, Blk w1 w.heap.size t #[v] → w.grownBy w1 none → w1.heap.size = w.heap.size + 1 → wpList P ops Q rest (a.put o.dst (.pointer (some ⟨w.heap.size, 0, none⟩))) w1) : wpList P ops Q (o :: rest) a w := by
 refine wpList_plain hg fun K' hK' => ?_
 unfold Oper.wp execOp
 simp only [hop, Sem.run_bind, Instr.box, newVar, newRow, run_newObj_alloc, Sem.run_pure, Result.andThen_ok, hx, hc]
 exact hK' _ _ (hK _ (Blk.made _ _ _) (World.grownBy_alloc w _ none) (by simp))
/-- One cell of a block turns. -/
theorem Tch.one {w w' : World} {b : Nat} (hg : w.grownBy w' (some b)) : Tch [b] w w' := Tch.grown hg (fun k hk => by injection hk with hk; subst hk; exact .inl (by simp))
/-- A variable of one cell is made. -/
theorem wpl_allocD {P : Program} {w : World} {ops : Array Oper} {rest : List Oper} {o : Oper} {a : Act} {Q : Exit → Act → World → Prop} (hg : o.guard = none) (t : TypeId) (hop : o.op = .alloc t) (z : Value) (hz : ∀ u : World, (zeroValue t).run P u = .ok z u) (hc : z.cells = #[z])
  (hK : ∀ w1, Blk w1 w.heap.size t #[z] → w.grownBy w1 none → w1.heap.size = w.heap.size + 1 → wpList P ops Q rest (a.put o.dst (.pointer (some ⟨w.heap.size, 0, none⟩))) w1) : wpList P ops Q (o :: rest) a w :=
 wpl_alloc_zero hg t hop hz (fun w1 h1 => hK w1 (by rwa [hc] at h1))
section
variable {P : Program} {w : World} {ops : Array Oper} {rest : List Oper} {o : Oper} {a : Act} {Q : Exit → Act → World → Prop}
theorem wpl_valD (hw : Region.wanted o (yielded ops a.tmps) = true) {v : Value} (hrun : (execOp a.eval o).run P w = .ok (.value v) w) (h : wpList P ops Q rest (a.put o.dst v) w) : wpList P ops Q (o :: rest) a w := by
 refine wpList_step fun K hK => ?_
 rw [if_pos hw]
 unfold Oper.wp
 rw [hrun]
 simp only [Oper.upon_value]
 exact hK _ _ h
end
theorem cmpD {b : BinOp} {t : TypeId} {x y : Operand} {o : Oper} {t2 : TypeId} {a : Act} {w : World} {u v : Value} {r : Bool} (ho : o.op = .binOp b t x y t2) (hx : a.eval x = u) (hy : a.eval y = v) (hg : (eqGuard b t x y u v).run Tryz.prog w = .ok () w) (h : (binOp b t u v).run Tryz.prog w = .ok (.bool r) w) : (execOp a.eval o).run Tryz.prog w = .ok (.value (.bool r)) w := by
 unfold execOp
 simp only [ho, hx, hy, Sem.run_bind, hg, h, Result.andThen_ok]
 rfl
/-- A row of bytes is made, with room to spare. -/
theorem wpl_mkD {w : World} {ops : Array Oper} {rest : List Oper} {o : Oper} {a : Act} {Q : Exit → Act → World → Prop} (hg : o.guard = none) (l c : Operand) (hop : o.op = Op.makeSlice 25 l c) (n m : Nat) (hl : a.eval l = .int .i64 (n : Int)) (hc : a.eval c = .int .i64 (m : Int)) (hnm : n ≤ m) (hm : m ≤ 1000000)
  (hK : ∀ w', Blk w' w.heap.size 5 (List.replicate m (Value.int .u8 0)).toArray → w.grownBy w' none → w'.heap.size = w.heap.size + 1 → wpList Tryz.prog ops Q rest (a.put o.dst (.slice (some ⟨w.heap.size, 0, none⟩) n m)) w') :
  wpList Tryz.prog ops Q (o :: rest) a w := by
 obtain ⟨i0, hi, hz0, hz1, hz2⟩ := info_parts infoByte
 have hr := run_make (P := Tryz.prog) w 25 5 i0 _ Tryz.underlying25 hi hz0 .i64 .i64 (n : Int) (m : Int) (by omega) (by omega) (by rw [hz2]; omega) (by omega)
 simp only [Int.toNat_natCast, hz1, Nat.mul_one] at hr
 have e : madeCells (Value.int .u8 0).cells m = (List.replicate m (Value.int .u8 0)).toArray := by
  apply Array.ext'
  exact toList_madeCells_one _ _
 rw [e] at hr
 refine wpList_plain hg fun K hK' => ?_
 unfold Oper.wp execOp
 simp only [hop, hl, hc, hr, Sem.run_bind, Sem.run_pure, Result.andThen_ok]
 exact hK' _ _ (hK _ (Blk.made _ _ _) (World.grownBy_alloc w _ none) (by simp))
theorem load_runD {x : Operand} {o : Oper} {a : Act} {w : World} (ty : TypeId) (ho : o.op = .load ty x) (b off : Nat) (hx : a.eval x = .pointer (some ⟨b, off, none⟩)) (cs : List Value) (d : TypeDesc) (hc : w.rangeAt b off cs) (hu : Tryz.prog.underlying ty = some d) (hd : d.isRow = true) (hi : (Tryz.prog.info? ty).map (·.size) = some cs.length) :
  (execOp a.eval o).run Tryz.prog w = .ok (.value (.agg cs.toArray)) w := by
 unfold execOp
 simp only [ho, hx, Instr.loadAt, Instr.sureAddr, Sem.run_bind, Sem.run_pure, Result.andThen_ok, run_loadVar_mid w b off ty cs d hc hu hd hi]
end Go.Proofs.YtffalfacakdhkaaGreatDoor
namespace Go.Proofs.YtffalfacakdhkaaGreatDoor
open Go.RowKit Go.Maps
set_option linter.unusedVariables false
set_option linter.unusedSimpArgs false
def jrC (c hf J ep jn sq : Nat) : List Value := [.pointer (some ⟨c, 0, none⟩), .int .i64 (hf : Int), .int .i64 (J : Int), .int .i64 (ep : Int), .int .i64 (jn : Int), .int .i64 (sq : Int)]
theorem jr_room {W : World} {jb c q : Nat} (h : Blk W jb 240 (jrC c 10 8 1 q q).toArray) (hq : q ≤ 8) : Calls Tryz.prog 185 #[.pointer (some ⟨jb, 0, none⟩)] W fun e w' => e = .returned (.int .i64 (8 - (q : Int))) ∧ W.drew = w' := by
 have c0 : W.cell? ⟨jb, 0, none⟩ = some (.pointer (some ⟨c, 0, none⟩)) := h.cell rfl
 have c2 : W.cell? ⟨jb, 2, none⟩ = some (.int .i64 8) := h.cell rfl
 have c4 : W.cell? ⟨jb, 4, none⟩ = some (.int .i64 (q : Int)) := h.cell rfl
 have hq2 : (q : Int) ≤ 8 := by omega
 clear h
 go_enter Tryz.func185, Tryz.ntmps185
 go_upto_region 3 with fail
 refine wp_region_qs (fun _ w' => w'.cell? ⟨jb, 2, none⟩ = some (.int .i64 8) ∧ w'.cell? ⟨jb, 4, none⟩ = some (.int .i64 (q : Int))) [(0, some 0), (1, some 0), (2, some 0), (3, some 0), (4, some 0), (5, some 0), (6, some 0), (7, some 0), (8, some 0), (9, some 0)] (by kernel_rfl) (by kernel_rfl) (by kernel_rfl) (by kernel_rfl) (by kernel_rfl) (fun _ _ _ _ _ h => h) ⟨c2, c4⟩ ?_
 simp only [yD, yE, yF, yG]
 (repeat (first | (refine qs_mid (v := ?_) (by rfl) ?_ ?_; rotate_left 1; (· (intro j w' hj1 hj2 hS; go_simp; (try (simp only [↓IntWalk.iteOmega]; go_simp)); (try simp (disch := omega) only [IntWalk.i64_in]); try with_reducible rfl)); simp only [Act.put, yA, yB, yC]) | (refine qs_skip (by rfl) ?_; simp only [Act.put, yA, yB, yC])))
 refine qs_nil ?_
 go_wp2
 go_ret
 exact ⟨rfl, rfl⟩
theorem frS_is (kind ep sq : Nat) (ds : List Int) (hk : kind < 256) (hl : ds.length ≤ 480) (hd : ∀ z ∈ ds, 0 ≤ z ∧ z < 256) : ∃ x : Sec, secsL [x] = bV (frL kind ep sq ds) :=
 ⟨⟨frL kind ep sq ds, frL_len _ _ _ _ hl, frL_bytes hk hd⟩, by show secL _ ++ [] = _; rw [List.append_nil]; rfl⟩
theorem bsrc_full {W : World} {g : Nat} {ys : List Int} (h : Blk W g 5 (bV ys).toArray) (m : Nat) (hl : ys.length = m) : BSrc W (some ⟨g, 0, none⟩) m (bV ys) :=
 ⟨g, 0, _, rfl, h, by rw [List.drop_zero, List.take_of_length_le (by simp [bV_len, hl])], by rw [bV_len, hl]⟩
theorem info_i1D : (Tryz.prog.info? 3).map (·.size) = some 1 := by kernel_rfl
/-- A block turns that is none of a cache's, a device's, none of bytes. -/
theorem CcI.oth [gm : Inhabited GMk] {W W' : World} {c kb d sb ob n N r : Nat} {L : Int → Sec} {t : TypeId} {cs : Array Value} (hc : CcI W c kb d sb ob n L N) (hb : Blk W r t cs) (h1 : t ≠ 206) (h2 : t ≠ 113) (h3 : t ≠ 5) (hT : Tch [r] W W') : CcI W' c kb d sb ob n L N := by
 obtain ⟨K, S, O, k1, k2, k3, k4, k5⟩ := hc
 obtain ⟨now, hi, mi, hk⟩ := k1.blk
 have hm : ∀ {α β : Type} [DecidableEq α] {k : TypeId} {kv : α → Value} {kl : α → Lit} {ve : β → Value} {M : List (α × β)} {b : Nat}, MapIs Tryz.prog k kv kl ve W b M → b ∉ [r] := fun hx => by
  have := blk_ne_mapD hx hb
  simpa using this.symm
 exact ⟨K, S, O, k1.tch hT (by have := blk_ne_tyD hk hb h1.symm; simpa using this) (hm k1.map) (by have := blk_ne_tyD k1.dk.blk hb h2.symm; simpa using this) (hm k1.dk.safe) (hm k1.dk.opn) (fun b cs hx => by have := blk_ne_tyD hx hb h3.symm; simpa using this), k2, k3, k4, fun g hg => ⟨Nat.lt_of_lt_of_le (k5 g hg).1 hT.size, (k5 g hg).2⟩⟩
def ApPost [gm : Inhabited GMk] (W : World) (jb c kb d sb ob q N : Nat) (e : Ending) (w' : World) : Prop := e = .returned (.int .i64 0) ∧ (∃ L', CcI w' c kb d sb ob 400 L' (N + 1)) ∧ Blk w' jb 240 (jrC c 10 8 1 (q + 1) (q + 1)).toArray ∧ Tch [c, kb, sb, ob, jb] W w'
theorem built_fm (A : Option Addr) (m c : Nat) (ep sq : Nat) : Tryz.prog.built 359 [(0, .int .i64 2), (1, .int .i64 (ep : Int)), (2, .int .i64 (sq : Int)), (3, .slice A m c)] = some (fmC 2 ep sq A m c).toArray := by kernel_rfl
set_option maxRecDepth 100000 in
set_option maxHeartbeats 1000000 in
theorem jr_append [gm : Inhabited GMk] {W : World} {jb c kb d sb ob q N : Nat} {L : Int → Sec} (h : Blk W jb 240 (jrC c 10 8 1 q q).toArray) (hc : CcI W c kb d sb ob 400 L N) (hq : q ≤ 6) (hN : N ≤ 800000) {A : Option Addr} {cap : Nat} {ds : List Int} (hs : Src W 1 (.slice A 5 cap) 5 (bV ds)) (hd : ∀ z ∈ ds, 0 ≤ z ∧ z < 256) :
  Calls Tryz.prog 186 #[.pointer (some ⟨jb, 0, none⟩), .slice A 5 cap] W (ApPost W jb c kb d sb ob q N) := by
 have H := yH h
 have HC := yH hc
 have HQ := yH (And.intro hq hN)
 have c0 : W.cell? ⟨jb, 0, none⟩ = some (.pointer (some ⟨c, 0, none⟩)) := h.cell rfl
 have HP := yH (fr_put (w := W.drew) 2 1 q (by omega) (by omega) (by omega) (A := A) (m := 5) (c := cap) (ds := ds) (hs.below (Below.refl _ W).drew) (by omega) hd)
 have hl : ds.length = 5 := by obtain ⟨_, _, _, hl, _⟩ := hs; rw [bV_len] at hl; omega
 have HX := yH (frS_is 2 1 q ds (by omega) (by omega) hd)
 have HFl := yH (show (frL 2 1 q ds).length = 512 from frL_len _ _ _ _ (by omega))
 have hq2 : (q : Int) ≤ 6 := by omega
 clear h hc hs hd hl hq
 go_enter Tryz.func186, Tryz.ntmps186
 go_upto_region 3 with fail
 refine wp_region_qs (fun _ w' => w'.cell? ⟨jb, 3, none⟩ = some (.int .i64 1) ∧ w'.cell? ⟨jb, 5, none⟩ = some (.int .i64 (q : Int))) [(0, some 1), (1, some 1), (2, some 1), (3, some 1), (4, some 1), (5, some 1), (6, some 1), (7, some 1), (8, some 1), (9, some 0), (10, none), (11, some 1), (12, some 1), (13, some 1), (14, some 1), (15, some 1)] (by kernel_rfl) (by kernel_rfl) (by kernel_rfl) (by kernel_rfl) (by kernel_rfl) (fun _ _ _ _ _ h => h) ⟨H.out.drew.cell rfl, H.out.drew.cell rfl⟩ ?_
 simp only [yD, yE, yF, yG]
 (repeat (first | ((refine qs_mk (by rfl) 359 _ (by rfl) [(0, .int .i64 2), (1, .int .i64 ((1 : Nat) : Int)), (2, .int .i64 (q : Int)), (3, .slice A 5 cap)] (by rfl) (fmC 2 1 q A 5 cap).toArray (built_fm A 5 cap 1 q) ?_); simp only [Act.put, yA, yB, yC]) | (refine qs_mid (v := ?_) (by rfl) ?_ ?_; rotate_left 1; (· (intro j w' hj1 hj2 hS; go_simp; (try (simp only [↓IntWalk.iteOmega]; go_simp)); (try simp (disch := omega) only [IntWalk.i64_in]); try with_reducible rfl)); simp only [Act.put, yA, yB, yC]) | (refine qs_skip (by rfl) ?_; simp only [Act.put, yA, yB, yC])))
 refine qs_act ?_
 go_wp2_with (go_at_call 268; refine HP.out.mono ?_; rintro e w1 ⟨g, rfl, hb, hge, hl⟩; have G1 := yH hb; have L1 := yH (show Below W.heap.size W w1 from below_chain (Below.refl _ W).drew hl); clear hb hge hl)
 have H1 := yH (H.out.below L1.out H.out.lt)
 refine ⟨⟨H1.out.cell rfl, H1.out.cell rfl⟩, ?_⟩
 (repeat (first | (refine qs_mid (v := ?_) (by rfl) ?_ ?_; rotate_left 1; (· (intro j w' hj1 hj2 hS; go_simp; (try (simp only [↓IntWalk.iteOmega]; go_simp)); (try simp (disch := omega) only [IntWalk.i64_in]); try with_reducible rfl)); simp only [Act.put, yA, yB, yC]) | (refine qs_skip (by rfl) ?_; simp only [Act.put, yA, yB, yC])))
 refine qs_nil ?_
 go_upto_region 7 with fail
 refine wp_region_qs (fun _ w' => w'.cell? ⟨jb, 2, none⟩ = some (.int .i64 8) ∧ w'.cell? ⟨jb, 4, none⟩ = some (.int .i64 (q : Int))) [(0, some 0), (1, some 0), (2, some 0), (3, some 0), (4, some 0), (5, some 0), (6, some 0), (7, some 0), (8, some 0), (9, some 0), (10, some 0), (11, some 0)] (by kernel_rfl) (by kernel_rfl) (by kernel_rfl) (by kernel_rfl) (by kernel_rfl) (fun _ _ _ _ _ h => h) ⟨H1.out.drew.cell rfl, H1.out.drew.cell rfl⟩ ?_
 simp only [yD, yE, yF, yG]
 (repeat (first | (refine qs_mid (v := ?_) (by rfl) ?_ ?_; rotate_left 1; (· (intro j w' hj1 hj2 hS; go_simp; (try (simp only [↓IntWalk.iteOmega]; go_simp)); (try simp (disch := omega) only [IntWalk.i64_in]); try with_reducible rfl)); simp only [Act.put, yA, yB, yC]) | (refine qs_skip (by rfl) ?_; simp only [Act.put, yA, yB, yC])))
 refine qs_nil ?_
 have L2 := yH (show Below W.heap.size W w1.drew from L1.out.drew)
 obtain ⟨w2, hw2⟩ : ∃ v, v = w1.drew := ⟨_, rfl⟩
 have H2 := yH (show Blk w2 jb 240 (jrC c 10 8 1 q q).toArray by rw [hw2]; exact H1.out.drew)
 have G2 := yH (show Blk w2 g 5 (bV (frL 2 1 q ds)).toArray by rw [hw2]; exact G1.out.drew)
 rw [← hw2] at L2 ⊢
 have C2 := yH (HC.out.below L2.out)
 obtain ⟨x, hx⟩ := HX.out
 have HW := yH (bl_write (C2.out.below (Below.refl _ w2).drew) (10 + q) [x] (by simp) (by have := HQ.out; simp; omega) (A := some ⟨g, 0, none⟩) (cap := 512) (by rw [hx]; exact bsrc_full G2.out.drew 512 HFl.out) (by simp) (by have := HQ.out; simp; omega))
 have e10 : IntKind.i64.wrap (10 + (q : Int)) = ((10 + q : Nat) : Int) := by rw [IntWalk.i64_in _ (by omega)]; omega
 clear hw2 H1 G1 L1 HC HX HFl HP c0 hx
 go_upto_region 9 with fail
 refine wp_region_qs (fun _ w' => w'.cell? ⟨jb, 0, none⟩ = some (.pointer (some ⟨c, 0, none⟩)) ∧ w'.cell? ⟨jb, 1, none⟩ = some (.int .i64 10) ∧ w'.cell? ⟨jb, 4, none⟩ = some (.int .i64 (q : Int))) [(0, some 1), (1, some 1), (2, some 1), (3, some 0), (4, some 1), (5, some 1), (6, some 1), (7, some 1), (8, some 1), (9, some 1), (10, some 1), (11, some 1), (12, some 0), (13, some 0), (14, none), (15, some 1)] (by kernel_rfl) (by kernel_rfl) (by kernel_rfl) (by kernel_rfl) (by kernel_rfl) (fun _ _ _ _ _ h => h) ⟨H2.out.drew.cell rfl, H2.out.drew.cell rfl, H2.out.drew.cell rfl⟩ ?_
 simp only [yD, yE, yF, yG]
 (repeat (first | (refine qs_mid (v := ?_) (by rfl) ?_ ?_; rotate_left 1; (· (intro j w' hj1 hj2 hS; go_simp; (try (simp only [↓IntWalk.iteOmega]; go_simp)); (try simp (disch := omega) only [IntWalk.i64_in]); try with_reducible rfl)); simp only [Act.put, yA, yB, yC]) | (refine qs_skip (by rfl) ?_; simp only [Act.put, yA, yB, yC])))
 refine qs_act ?_
 go_wp2_with (go_at_call 77; refine HW.out.mono ?_; rintro e w3 ⟨rfl, hC, hT⟩; have C3 := yH hC; have T3 := yH (show Tch [c, kb, sb, ob] W w3 from (Tch.below (below_chain L2.out (Below.refl _ w2).drew)).trans hT); have H3 := yH (H2.out.drew.cc (C2.out.below (Below.refl _ w2).drew) hT (by decide)); clear hC hT)
 refine ⟨⟨H3.out.cell rfl, H3.out.cell rfl, H3.out.cell rfl⟩, ?_⟩
 (repeat (first | (refine qs_mid (v := ?_) (by rfl) ?_ ?_; rotate_left 1; (· (intro j w' hj1 hj2 hS; go_simp; (try (simp only [↓IntWalk.iteOmega]; go_simp)); (try simp (disch := omega) only [IntWalk.i64_in]); try with_reducible rfl)); simp only [Act.put, yA, yB, yC]) | (refine qs_skip (by rfl) ?_; simp only [Act.put, yA, yB, yC])))
 refine qs_nil ?_
 clear HW H2 G2 C2 L2
 have k4 := H3.out.cell (i := 4) (v := .int .i64 (q : Int)) rfl
 go_wp2_with (first
  | (refine wpl_setD rfl 3 (.tmp 76) (.tmp 74) (by rfl) jb 4 (.int .i64 ((q : Int) + 1)) (by rfl) (by rfl) _ _ H3.out info_i1D (by show 4 < 6; omega) (by rfl) (by rfl) ?_; intro w4 hb hg hz; have B4 := yH hb; have T4 := yH (Tch.one hg); have k5 := B4.out.cell (i := 5) (v := .int .i64 (q : Int)) rfl; clear hb hg hz; simp only [Act.put, yA, yB, yC])
  | (refine wpl_setD rfl 3 (.tmp 83) (.tmp 81) (by rfl) jb 5 (.int .i64 ((q : Int) + 1)) (by rfl) (by rfl) _ _ B4.out info_i1D (by show 5 < 6; omega) (by rfl) (by rfl) ?_; intro w5 hb hg hz; have B5 := yH hb; have T5 := yH (T4.out.trans (Tch.one hg)); clear hb hg hz; simp only [Act.put, yA, yB, yC]))
 go_ret
 have C5 := C3.out.oth H3.out (by decide) (by decide) (by decide) T5.out
 refine ⟨rfl, ⟨_, C5⟩, ?_, (T3.out.mono (fun k hk => by simp at hk ⊢; omega)).trans (T5.out.mono (fun k hk => by simp at hk ⊢; omega))⟩
 have := B5.out
 have e : ((q + 1 : Nat) : Int) = (q : Int) + 1 := by omega
 unfold jrC
 rw [e]
 exact this
end Go.Proofs.YtffalfacakdhkaaGreatDoor
namespace Go.Proofs.YtffalfacakdhkaaGreatDoor
open Go.RowKit Go.Maps
set_option linter.unusedVariables false
set_option linter.unusedSimpArgs false
def z4 : Array Value := #[.int .i64 0, .int .i64 0, .int .i64 0, .int .i64 0]
theorem z4_at (i : Nat) (h : i < 4) : z4[i]? = some (.int .i64 0) := by
 match i, h with
 | 0, _ => rfl
 | 1, _ => rfl
 | 2, _ => rfl
 | 3, _ => rfl
def geS : Geo := ⟨64, 4, 32, 1, 8⟩
theorem geS_right : RightP geS := by decide
theorem geS_geB : GeB geS := by unfold GeB rI; decide
section
variable {W : World} {g : Nat}
def FrI (W : World) (m : Nat) (nv iv : Value) (wr : World) : Prop := ∃ i : Nat, nv = .int .i64 (i : Int) ∧ iv = .int .i64 (i : Int) ∧ i ≤ 4 ∧ i + m ≤ 4 ∧ 4 ≤ i + m ∧ wr = W
set_option maxRecDepth 100000 in
theorem us_free (h : Blk W g 3 z4) : Calls Tryz.prog 121 #[.slice (some ⟨g, 0, none⟩) 4 4] W fun e w' => e = .returned (.int .i64 4) ∧ W = w' := by
 have H := yH h
 clear h
 go_enter Tryz.func121, Tryz.ntmps121
 go_wp2
 go_loopg [3, 8] 4 (fun m nv iv wr => FrI W m nv iv wr)
 case atStart => exact ⟨0, rfl, rfl, by omega, by omega, by omega, rfl⟩
 case round =>
  obtain ⟨i, rfl, rfl, h1, h2, h3, rfl⟩ := hrel
  by_cases hi : i < 4
  ·have hI : (i : Int) < 4 := by omega
   have hc : wr.cell? ⟨g, i, none⟩ = some (.int .i64 0) := H.out.cell (z4_at i hi)
   go_wp2
   go_roundg (gk - 1)
   case measure => omega
   case rel => exact ⟨i + 1, by go_num, by go_num, by omega, by omega, by omega, rfl⟩
  ·have hI : ¬ (i : Int) < 4 := by omega
   obtain rfl : i = 4 := by omega
   go_wp2
   go_ret
   exact ⟨rfl, rfl⟩
end
theorem info_int : (Tryz.prog.info? 3).map (fun i => (i.zero, i.size, i.bytes)) = some (some (.int .i64 0), 1, 8) := by kernel_rfl
theorem pl_eql (w : World) : (binOp BinOp.eql 174 (.slice none 0 0) (.slice none 0 0)).run Tryz.prog w = .ok (.bool true) w := by kernel_rfl
set_option maxRecDepth 100000 in
theorem usCl_nil (w : World) : Calls Tryz.prog 234 #[.slice none 0 0] w fun e w' => e = .returned (.slice none 0 0) ∧ w = w' := by
 go_enter Tryz.func234, Tryz.ntmps234
 go_wp2_with (with_reducible refine wpl_valD (v := .bool true) (by kernel_rfl) (cmpD (u := .slice none 0 0) (v := .slice none 0 0) (b := .eql) (t := 174) (x := .tmp 3) (y := .const (.slice none 0 0)) (by with_reducible rfl) (by kernel_rfl) (by kernel_rfl) (by kernel_rfl) (pl_eql _)) ?_; simp only [Act.put, yA, yB, yC])
 go_ret
 exact ⟨rfl, rfl⟩
set_option maxRecDepth 100000 in
theorem usIns_nil (f : Value) (w : World) : Calls Tryz.prog 363 #[.slice none 0 0, .int .i64 0, .int .i64 0, f] w fun e w' => e = .returned (.tuple #[]) ∧ w = w' := by
 go_enter Tryz.func363, Tryz.ntmps363
 go_wp2_with fail
 go_loopg [8] 0 (fun (k : Nat) iv wk => iv = .int .i64 1 ∧ wk = w)
 ·exact ⟨rfl, rfl⟩
 ·obtain ⟨rfl, rfl⟩ := hrel
  go_wp2_with fail
  go_end0
  exact ⟨rfl, rfl⟩
set_option maxRecDepth 100000 in
theorem len64_0 (w : World) : Calls Tryz.prog 125 #[.int .u64 0] w fun e w' => e = .returned (.int .i64 0) ∧ w = w' := by
 go_enter Tryz.func125, Tryz.ntmps125
 go_wp2
 go_ret
 exact ⟨by kernel_rfl, rfl⟩
theorem len_0 (w : World) : Calls Tryz.prog 304 #[.int .u64 0] w fun e w' => e = .returned (.int .i64 0) ∧ w = w' := by
 go_enter Tryz.func304, Tryz.ntmps304
 go_wp2_with (go_at_call 125; refine (len64_0 _).mono ?_; rintro e w1 ⟨rfl, rfl⟩)
 go_ret
 exact ⟨rfl, rfl⟩
set_option maxRecDepth 100000 in
theorem usPdq_nil (f : Value) (w : World) : Calls Tryz.prog 306 #[.slice none 0 0, .int .i64 0, .int .i64 0, .int .i64 0, f] w fun e w' => e = .returned (.tuple #[]) ∧ w = w' := by
 go_enter Tryz.func306, Tryz.ntmps306
 go_wp2_with fail
 go_loopg [1, 2, 3, 10, 11] 0 (fun (k : Nat) av bv lv pv qv wk => av = .int .i64 0 ∧ bv = .int .i64 0 ∧ wk = w)
 ·exact ⟨rfl, rfl, rfl⟩
 ·obtain ⟨rfl, rfl, rfl⟩ := hrel
  go_wp2_with (go_at_call 363; refine (usIns_nil _ _).mono ?_; rintro e w1 ⟨rfl, rfl⟩)
  (try simp only [Exit.inBlock, Exit.then])
  refine bodyPost_ret (results_none rfl _ _ _) rfl ?_
  exact ⟨rfl, rfl⟩
set_option maxRecDepth 100000 in
theorem usSort_nil (f : Value) (w : World) : Calls Tryz.prog 235 #[.slice none 0 0, f] w fun e w' => e = .returned (.tuple #[]) ∧ w = w' := by
 go_enter Tryz.func235, Tryz.ntmps235
 go_wp2_with (first
  | (go_at_call 304; refine (len_0 _).mono ?_; rintro e w1 ⟨rfl, rfl⟩)
  | (go_at_call 306; refine (usPdq_nil _ _).mono ?_; rintro e w1 ⟨rfl, rfl⟩))
 go_end0
 exact ⟨rfl, rfl⟩
/-- Four noughts are made. -/
theorem wpl_mk4 {w : World} {ops : Array Oper} {rest : List Oper} {o : Oper} {a : Act} {Q : Exit → Act → World → Prop} (hg : o.guard = none) (l c : Operand) (hop : o.op = Op.makeSlice 55 l c) (hl : a.eval l = .int .i64 4) (hc : a.eval c = .int .i64 4)
  (hK : ∀ w', Blk w' w.heap.size 3 z4 → w.grownBy w' none → w'.heap.size = w.heap.size + 1 → wpList Tryz.prog ops Q rest (a.put o.dst (.slice (some ⟨w.heap.size, 0, none⟩) 4 4)) w') :
  wpList Tryz.prog ops Q (o :: rest) a w := by
 obtain ⟨i0, hi, hz0, hz1, hz2⟩ := info_parts info_int
 have hr := run_make (P := Tryz.prog) w 55 3 i0 _ Tryz.underlying55 hi hz0 .i64 .i64 4 4 (by omega) (by omega) (by rw [hz2]; omega) (by omega)
 simp only [hz1] at hr
 have e : madeCells (Value.int .i64 0).cells (Int.toNat 4 * 1) = z4 := by kernel_rfl
 rw [e] at hr
 refine wpList_plain hg fun K hK' => ?_
 unfold Oper.wp execOp
 simp only [hop, hl, hc, hr, Sem.run_bind, Sem.run_pure, Result.andThen_ok]
 exact hK' _ _ (hK _ (Blk.made _ _ _) (World.grownBy_alloc w _ none) (by simp))
set_option maxRecDepth 100000 in
theorem us_used (w : World) : Calls Tryz.prog 161 #[.agg (geC geS).toArray, .slice none 0 0] w fun e w' => ∃ g, e = .returned (.tuple #[.slice (some ⟨g, 0, none⟩) 4 4, .int .i64 0]) ∧ Blk w' g 3 z4 ∧ Below w.heap.size w w' ∧ w.heap.size ≤ g := by
 go_enter Tryz.func161, Tryz.ntmps161
 go_upto_region 4 with (first
  | (refine wpl_box rfl 66 (.tmp 0) rfl _ rfl ?_; intro w1 hk hg hz; have K1 := yH hk; have L1 := yH (bl_n (Below.refl _ w) hg); clear hk hg hz; simp only [Act.put, yA, yB, yC])
  | (refine wpl_load_blk rfl 66 (.tmp 2) (by rfl) w.heap.size (by rfl) 66 _ K1.out _ Tryz.underlying66 rfl 5 (geC_info geS) rfl ?_; simp only [Act.put, yA, yB, yC])
  | (go_at_call 74; refine (right_any geS_geB).mono ?_; rewrite [decide_eq_true geS_right]; rintro e w2 ⟨rfl, hl⟩; have L2 := yH (below_chain L1.out hl); have K2 := yH (K1.out.below hl K1.out.lt); have c1 : w2.cell? ⟨w.heap.size, 1, none⟩ = some (.int .i64 4) := K2.out.cell rfl; clear hl)
  | (refine wpl_mk4 rfl (.tmp 16) (.tmp 16) (by rfl) (by rfl) (by rfl) ?_; intro w3 hb hg hz; have B3 := yH hb; have L3 := yH (bl_n L2.out hg); clear hb hg hz; simp only [Act.put, yA, yB, yC]))
 have HG := yH L2.out.size
 clear K1 L1 K2 c1 L2
 go_wp2_with fail
 go_loopg [20] 0 (fun (k : Nat) iv wk => iv = .int .i64 0 ∧ wk = w3)
 ·exact ⟨rfl, rfl⟩
 ·obtain ⟨rfl, rfl⟩ := hrel
  go_wp2_with (first
   | (go_at_call 234; refine (usCl_nil _).mono ?_; rintro e w4 ⟨rfl, rfl⟩)
   | (go_at_call 235; refine (usSort_nil _ _).mono ?_; rintro e w4 ⟨rfl, rfl⟩))
  go_loopg [68] 0 (fun (k : Nat) iv wk => iv = .int .i64 0 ∧ wk = wr)
  ·exact ⟨rfl, rfl⟩
  ·obtain ⟨rfl, rfl⟩ := hrel
   go_wp2_with fail
   go_ret2
   exact ⟨_, rfl, B3.out, L3.out, HG.out⟩
end Go.Proofs.YtffalfacakdhkaaGreatDoor
