/-
  what this claim needs of: DlRead (written by cut.py).
-/
import Derived.Test.YtffalfacakdhkaaGreatDoorDDlOf
import Derived.Lib.OthersKept
namespace Go.Proofs.YtffalfacakdhkaaGreatDoor
open Go.RowKit
set_option linter.unusedVariables false
set_option linter.unusedSimpArgs false

structure StepV where
 kind : Int
 pos : Int
 n : Int
 snap : Int
 bytes : List Int
 fates : List Int
def zeroS (k : Int) : StepV := ⟨k, 0, 0, 0, [], []⟩
def fatesL : List (List UInt8) → Option (List Int)
 | [] => some []
 | t :: ts => match numL t with
  | some v => (fatesL ts).map (v :: ·)
  | none => none
def fieldL (f : UInt8) (t : List UInt8) (x : StepV) : Option StepV :=
 if f = 97 then (numL t).map fun v => { x with pos := v }
 else if f = 110 then (numL t).map fun v => { x with n := v }
 else if f = 115 then (numL t).map fun v => { x with snap := v }
 else (unhexL t).map fun b => { x with bytes := b }
def fieldX (f : UInt8) (i : Nat) (rest : List (List UInt8)) (x : StepV) : Option StepV :=
 if f = 102 then (fatesL rest).map fun l => { x with fates := x.fates ++ l }
 else match rest[i]? with
  | some t => fieldL f t x
  | none => none
def followX : List UInt8 → Nat → List (List UInt8) → StepV → Option StepV
 | [], _, _, x => some x
 | f :: fs, i, rest, x => match fieldX f i rest x with
  | some y => followX fs (i + 1) rest y
  | none => none
def readL (w0 : List UInt8) (rest : List (List UInt8)) : Option StepV :=
 if (shapeL w0).1 = 0 then none
 else if (shapeL w0).1 ≠ 10 ∧ rest.length ≠ (shapeL w0).2.length then none
 else followX (shapeL w0).2 0 rest (zeroS (shapeL w0).1)
def stepL (l : List UInt8) : Option StepV := match wordsL l with
 | [] => none
 | w0 :: rest => readL w0 rest
theorem ite_in {α : Type} {p : Prop} [Decidable p] {a b : α} {L : List α} (h1 : a ∈ L) (h2 : b ∈ L) : (if p then a else b) ∈ L := by
 split
 ·exact h1
 ·exact h2
theorem shape_facts (l : List UInt8) : 0 ≤ (shapeL l).1 ∧ (shapeL l).1 ≤ 12 ∧ (shapeL l).2.length ≤ 3 ∧ (∀ f ∈ (shapeL l).2, f = 97 ∨ f = 110 ∨ f = 115 ∨ f = 98 ∨ f = 102) ∧ ((shapeL l).1 = 10 → (shapeL l).2 = [102]) ∧ ((shapeL l).1 ≠ 10 → 102 ∉ (shapeL l).2) := by
 have key : ∀ p : Int × List UInt8, p ∈ ([(1, [97, 110]), (2, [97, 98]), (3, [97, 110]), (4, []), (5, []), (6, [115]), (7, [115]), (8, [115, 97, 110]), (9, [110]), (10, [102]), (11, [110]), (12, []), (0, [])] : List (Int × List UInt8)) → 0 ≤ p.1 ∧ p.1 ≤ 12 ∧ p.2.length ≤ 3 ∧ (∀ f ∈ p.2, f = 97 ∨ f = 110 ∨ f = 115 ∨ f = 98 ∨ f = 102) ∧ (p.1 = 10 → p.2 = [102]) ∧ (p.1 ≠ 10 → 102 ∉ p.2) := by decide
 refine key _ ?_
 unfold shapeL
 repeat (refine ite_in (by decide) ?_)
 decide
def StAt (w : World) (base g : Nat) (y : StepV) : Prop :=
 ∃ B F, Blk w g 61 #[.int .u8 y.kind, .int .i64 y.pos, .int .i64 y.n, .int .i64 y.snap, B, F] ∧ w.ownsRow base 5 1 B y.bytes.length (y.bytes.map (Value.int .u8)) ∧ w.ownsRow base 155 1 F y.fates.length (y.fates.map (Value.int .i64))
theorem StAt.below {w w' : World} {base g : Nat} {y : StepV} (h : StAt w base g y) (hb : Below w.heap.size w w') : StAt w' base g y := by
 obtain ⟨B, F, h1, h2, h3⟩ := h
 exact ⟨B, F, h1.below hb h1.lt, own_lo8 h2 hb, own_lo8 h3 hb⟩
theorem ty_apartL {w : World} {r : Nat} {t u : TypeId} {cs : Array Value} {base n size : Nat} {v : Value} {xs : List Value} (hb : Blk w r t cs) (h : w.ownsRow base u size v n xs) (hne : u ≠ t) : v.ownBlock = none ∨ v.ownBlock ≠ some r := by
 rcases h.2 with ⟨rfl, _⟩ | ⟨g', cap, cur, rfl, _, hg, _⟩
 ·exact .inl rfl
 ·refine .inr (fun he => ?_)
  simp only [Value.ownBlock, Option.some.injEq] at he
  subst he
  unfold Blk at hb
  rw [hg] at hb
  injection hb with hb
  injection hb with _ ht
  exact absurd ht hne
theorem iter_apart {w : World} {gi i : Nat} {s : ByteArray} {base n size : Nat} {u : TypeId} {v : Value} {xs : List Value} (hi : w.heap[gi]? = some (.stringIter s i)) (h : w.ownsRow base u size v n xs) : v.ownBlock = none ∨ v.ownBlock ≠ some gi := by
 rcases h.2 with ⟨rfl, _⟩ | ⟨g', cap, cur, rfl, _, hg, _⟩
 ·exact .inl rfl
 ·refine .inr (fun he => ?_)
  simp only [Value.ownBlock, Option.some.injEq] at he
  subst he
  rw [hg] at hi
  cases hi
theorem own_base8 {w : World} {b b' : Nat} {t : TypeId} {size n : Nat} {v : Value} {xs : List Value} (h : w.ownsRow b t size v n xs) (hb : b' ≤ b) : w.ownsRow b' t size v n xs :=
 ⟨h.1, h.2.imp id fun ⟨g, cap, cur, e, a, r⟩ => ⟨g, cap, cur, e, Nat.le_trans hb a, r⟩⟩
theorem StAt.iter {w : World} {base g gi i j : Nat} {s : ByteArray} {y : StepV} (h : StAt w base g y) (hi : w.heap[gi]? = some (.stringIter s i)) : StAt (w.iterAt gi s j) base g y := by
 obtain ⟨B, F, h1, h2, h3⟩ := h
 have hg : w.grownBy (w.iterAt gi s j) (some gi) := ⟨rfl, rfl, rfl, by rw [Lib.iterAt_size]; exact Nat.le_refl _, fun k _ hk => Lib.iterAt_other w gi k s j (fun e => hk (by rw [e]))⟩
 have hne : some g ≠ some gi := by
  rintro e
  injection e with e
  subst e
  unfold Blk at h1
  rw [h1] at hi
  cases hi
 exact ⟨B, F, h1.grown hg hne, h2.kept hg (iter_apart hi h2), h3.kept hg (iter_apart hi h3)⟩
/-- A number's field is set. -/
theorem StAt.num {w : World} {base g : Nat} {y y' : StepV} {B F : Value} {j : Nat} {v : Value} (h1 : Blk w g 61 #[.int .u8 y.kind, .int .i64 y.pos, .int .i64 y.n, .int .i64 y.snap, B, F]) (h2 : w.ownsRow base 5 1 B y.bytes.length (y.bytes.map (Value.int .u8))) (h3 : w.ownsRow base 155 1 F y.fates.length (y.fates.map (Value.int .i64)))
  (hc : (#[.int .u8 y.kind, .int .i64 y.pos, .int .i64 y.n, .int .i64 y.snap, B, F] : Array Value).setIfInBounds j v = #[.int .u8 y'.kind, .int .i64 y'.pos, .int .i64 y'.n, .int .i64 y'.snap, B, F]) (hb : y'.bytes = y.bytes) (hf : y'.fates = y.fates) : StAt (w.setCell ⟨g, j, none⟩ v) base g y' := by
 have p := h1.put j v
 rw [hc] at p
 have hg := grown_put w ⟨g, j, none⟩ v
 refine ⟨B, F, p, ?_, ?_⟩
 ·rw [hb]; exact h2.kept hg (ty_apartL h1 h2 (by decide))
 ·rw [hf]; exact h3.kept hg (ty_apartL h1 h3 (by decide))
/-- Words in memory. -/
def WdAt (w : World) (b off : Nat) (ws : List ByteArray) : Prop := ∀ j (h : j < ws.length), w.cell? ⟨b, off + j, none⟩ = some (.string ws[j])
theorem WdAt.below {w w' : World} {b off : Nat} {ws : List ByteArray} (h : WdAt w b off ws) (hb : Below w.heap.size w w') : WdAt w' b off ws := fun j hj => cell_low (h j hj) hb
def stepVs (y : StepV) (B F : Value) : Array Value := #[.int .u8 y.kind, .int .i64 y.pos, .int .i64 y.n, .int .i64 y.snap, B, F]
theorem bel_put {B : Nat} {a w : World} (h : Below B a w) {g : Nat} (hg : B ≤ g) (j : Nat) (v : Value) : Below B a (w.setCell ⟨g, j, none⟩ v) :=
 h.trans ⟨rfl, rfl, rfl, by simp, fun k hk => Below.heap_setCell w _ v k (fun e => by simp only at e; omega)⟩
theorem six_facts {w : World} {g : Nat} {u0 u1 u2 u3 u4 u5 : Value} (h : Blk w g 61 #[u0, u1, u2, u3, u4, u5]) (v0 v1 v2 v3 v4 v5 : Value) :
  Blk ((((((w.setCell ⟨g, 0, none⟩ v0).setCell ⟨g, 1, none⟩ v1).setCell ⟨g, 2, none⟩ v2).setCell ⟨g, 3, none⟩ v3).setCell ⟨g, 4, none⟩ v4).setCell ⟨g, 5, none⟩ v5) g 61 #[v0, v1, v2, v3, v4, v5] ∧
  (∀ B a, Below B a w → B ≤ g → Below B a ((((((w.setCell ⟨g, 0, none⟩ v0).setCell ⟨g, 1, none⟩ v1).setCell ⟨g, 2, none⟩ v2).setCell ⟨g, 3, none⟩ v3).setCell ⟨g, 4, none⟩ v4).setCell ⟨g, 5, none⟩ v5)) ∧
  (∀ base t size n v xs, w.ownsRow base t size v n xs → t ≠ 61 → ((((((w.setCell ⟨g, 0, none⟩ v0).setCell ⟨g, 1, none⟩ v1).setCell ⟨g, 2, none⟩ v2).setCell ⟨g, 3, none⟩ v3).setCell ⟨g, 4, none⟩ v4).setCell ⟨g, 5, none⟩ v5).ownsRow base t size v n xs) := by
 refine ⟨(((((h.put 0 v0).put 1 v1).put 2 v2).put 3 v3).put 4 v4).put 5 v5, fun B a hb hg => bel_put (bel_put (bel_put (bel_put (bel_put (bel_put hb hg _ _) hg _ _) hg _ _) hg _ _) hg _ _) hg _ _, fun base t size n v xs ho hne => ?_⟩
 have ha := ty_apartL h ho hne
 exact (((((ho.kept (grown_put _ _ _) ha).kept (grown_put _ _ _) ha).kept (grown_put _ _ _) ha).kept (grown_put _ _ _) ha).kept (grown_put _ _ _) ha).kept (grown_put _ _ _) ha
theorem lt_of_get {w : World} {g : Nat} {o : Obj} (h : w.heap[g]? = some o) : g < w.heap.size := (Array.getElem?_eq_some_iff.1 h).1
theorem get_fs {fs : List UInt8} {i : Nat} (h : i < fs.length) : ∃ f, fs[i]? = some f ∧ f ∈ fs ∧ fs.drop i = f :: fs.drop (i + 1) :=
 ⟨fs[i], List.getElem?_eq_getElem h, List.getElem_mem h, List.drop_eq_getElem_cons h⟩
theorem ba_fs {fs : List UInt8} {i : Nat} {f : UInt8} (h : fs[i]? = some f) : ∃ hh : i < (⟨fs.toArray⟩ : ByteArray).size, ((⟨fs.toArray⟩ : ByteArray)[i]'hh) = f := by
 have hl : i < fs.length := by
  rcases Nat.lt_or_ge i fs.length with h1 | h1
  ·exact h1
  ·rw [List.getElem?_eq_none h1] at h; cases h
 refine ⟨by show i < fs.toArray.size; simpa using hl, ?_⟩
 rw [List.getElem?_eq_getElem hl] at h
 exact Option.some.inj h
def ReadPost (r : Option StepV) (w : World) (e : Ending) (w' : World) : Prop :=
 Below w.heap.size w w' ∧ match r with
  | some y => ∃ B F, e = .returned (.tuple #[.agg (stepVs y B F), .nilIface]) ∧ w'.ownsRow w.heap.size 5 1 B y.bytes.length (y.bytes.map (Value.int .u8)) ∧ w'.ownsRow w.heap.size 155 1 F y.fates.length (y.fates.map (Value.int .i64))
  | none => ∃ y A n c A' n' c', e = .returned (.tuple #[.agg (stepVs y (.slice A n c) (.slice A' n' c')), wrongV])
def lists (ws : List ByteArray) : List (List UInt8) := ws.map (·.data.toList)
def RdL (fs : List UInt8) (rest : List (List UInt8)) (x0 : StepV) (gi g5 : Nat) (w : World) (k : Nat) (ev : Value) (wr : World) : Prop :=
 ∃ (i : Nat) (y : StepV), ev = .nilIface ∧ i + k = fs.length ∧ wr.heap[gi]? = some (.stringIter ⟨fs.toArray⟩ i) ∧ StAt wr w.heap.size g5 y ∧ Blk wr w.heap.size 61 (stepVs (zeroS 0) (.slice none 0 0) (.slice none 0 0)) ∧ Below w.heap.size w wr ∧ followX fs 0 rest x0 = followX (fs.drop i) i rest y
theorem own_keep_ty {w w' : World} {b1 b2 n1 n2 s1 s2 : Nat} {t1 t2 : TypeId} {v1 v2 : Value} {x1 x2 : List Value} (h1 : w.ownsRow b1 t1 s1 v1 n1 x1) (h2 : w.ownsRow b2 t2 s2 v2 n2 x2) (ht : t1 ≠ t2) {o : Obj} (hg : (w.alloc o).grownBy w' v2.ownBlock) : w'.ownsRow b1 t1 s1 v1 n1 x1 := by
 refine (h1.alloc o).kept hg ?_
 rcases h2.2 with ⟨rfl, _⟩ | ⟨g, cap, cur, rfl, _, hb, _⟩
 ·cases v1.ownBlock <;> simp [Value.ownBlock]
 ·exact ty_apartL (show Blk w g t2 cur from hb) h1 ht
theorem blk_grown_own {w w' : World} {g base size n : Nat} {t e : TypeId} {cs : Array Value} {v : Value} {xs : List Value} (hb : Blk w g t cs) (ho : w.ownsRow base e size v n xs) (hne : e ≠ t) {o : Obj} (hg : (w.alloc o).grownBy w' v.ownBlock) : Blk w' g t cs :=
 (hb.alloc o).grown hg (fun e => by
  rcases ty_apartL hb ho hne with h | h
  ·rw [h] at e; cases e
  ·exact h e.symm)
theorem iter_grown_own {w w' : World} {g base size n i : Nat} {e : TypeId} {s : ByteArray} {v : Value} {xs : List Value} (hb : w.heap[g]? = some (.stringIter s i)) (ho : w.ownsRow base e size v n xs) {o : Obj} (hg : (w.alloc o).grownBy w' v.ownBlock) : w'.heap[g]? = some (.stringIter s i) :=
 (hg.block g (by have := lt_of_get hb; simp; omega) (fun e => by
  rcases iter_apart hb ho with h | h
  ·rw [h] at e; cases e
  ·exact h e.symm)).trans ((Below.heap_alloc w _ g (lt_of_get hb)).trans hb)
theorem StAt.set {w : World} {base g : Nat} {y y' : StepV} {B F B' F' : Value} {j : Nat} {v : Value} (h1 : Blk w g 61 #[.int .u8 y.kind, .int .i64 y.pos, .int .i64 y.n, .int .i64 y.snap, B, F]) (h2 : w.ownsRow base 5 1 B' y'.bytes.length (y'.bytes.map (Value.int .u8))) (h3 : w.ownsRow base 155 1 F' y'.fates.length (y'.fates.map (Value.int .i64)))
  (hc : (#[.int .u8 y.kind, .int .i64 y.pos, .int .i64 y.n, .int .i64 y.snap, B, F] : Array Value).setIfInBounds j v = #[.int .u8 y'.kind, .int .i64 y'.pos, .int .i64 y'.n, .int .i64 y'.snap, B', F']) : StAt (w.setCell ⟨g, j, none⟩ v) base g y' := by
 have p := h1.put j v
 rw [hc] at p
 have hg := grown_put w ⟨g, j, none⟩ v
 exact ⟨B', F', p, h2.kept hg (ty_apartL h1 h2 (by decide)), h3.kept hg (ty_apartL h1 h3 (by decide))⟩
theorem fates_step {L : List (List UInt8)} {j : Nat} {t : List UInt8} (h : L[j]? = some t) : fatesL (L.drop j) = match numL t with
  | some v => (fatesL (L.drop (j + 1))).map (v :: ·)
  | none => none := by
 have hj : j < L.length := by
  rcases Nat.lt_or_ge j L.length with h1 | h1
  ·exact h1
  ·rw [List.getElem?_eq_none h1] at h; cases h
 rw [List.getElem?_eq_getElem hj] at h
 rw [List.drop_eq_getElem_cons hj, Option.some.inj h, fatesL]
def FtOk (ws : List ByteArray) (j : Nat) (fl : List Int) (ev : Value) : Prop := (ev = .nilIface ∧ fatesL (lists ws) = (fatesL ((lists ws).drop j)).map (fl ++ ·)) ∨ (ev = wrongV ∧ fatesL (lists ws) = none)
theorem FtOk.bad {ws : List ByteArray} {j : Nat} {fl : List Int} {ev : Value} {t : List UInt8} (h : FtOk ws j fl ev) (ht : (lists ws)[j]? = some t) (hn : numL t = none) (fl' : List Int) : FtOk ws (j + 1) fl' wrongV := by
 rcases h with ⟨_, h⟩ | ⟨_, h⟩
 ·refine .inr ⟨rfl, ?_⟩
  rw [h, fates_step ht, hn]; rfl
 ·exact .inr ⟨rfl, h⟩
theorem FtOk.good {ws : List ByteArray} {j : Nat} {fl : List Int} {ev : Value} {t : List UInt8} {v : Int} (h : FtOk ws j fl ev) (ht : (lists ws)[j]? = some t) (hn : numL t = some v) : FtOk ws (j + 1) (fl ++ [v]) ev := by
 rcases h with ⟨e, h⟩ | ⟨e, h⟩
 ·refine .inl ⟨e, ?_⟩
  rw [h, fates_step ht, hn]
  cases fatesL ((lists ws).drop (j + 1)) <;> simp
 ·exact .inr ⟨e, h⟩
def fatS (k : Int) (fl : List Int) : StepV := ⟨k, 0, 0, 0, [], fl⟩
theorem StAt.fat {w : World} {base g : Nat} {k : Int} {fl : List Int} (h : StAt w base g (fatS k fl)) : ∃ B F, Blk w g 61 #[.int .u8 k, .int .i64 0, .int .i64 0, .int .i64 0, B, F] ∧ w.ownsRow base 5 1 B 0 [] ∧ w.ownsRow base 155 1 F fl.length (fl.map (Value.int .i64)) := h
def FtI (ws : List ByteArray) (kn : Int) (gi g5 : Nat) (w : World) (k : Nat) (ev jv : Value) (wr : World) : Prop :=
 ∃ (j : Nat) (fl : List Int), jv = .int .i64 ((j : Nat) : Int) ∧ j + k = ws.length ∧ fl.length = j ∧ wr.heap[gi]? = some (.stringIter ⟨#[102]⟩ 1) ∧ StAt wr w.heap.size g5 (fatS kn fl) ∧ Blk wr w.heap.size 61 (stepVs (zeroS 0) (.slice none 0 0) (.slice none 0 0)) ∧ Below w.heap.size w wr ∧ FtOk ws j fl ev
def RdC (ws : List ByteArray) (kn : Int) (gi g5 : Nat) (w : World) (k : Nat) (ev : Value) (wr : World) : Prop :=
 ∃ (i : Nat) (fl : List Int), ev = .nilIface ∧ i + k = 1 ∧ wr.heap[gi]? = some (.stringIter ⟨#[102]⟩ i) ∧ StAt wr w.heap.size g5 (fatS kn fl) ∧ Blk wr w.heap.size 61 (stepVs (zeroS 0) (.slice none 0 0) (.slice none 0 0)) ∧ Below w.heap.size w wr ∧ (i = 0 → fl = []) ∧ (i = 1 → fatesL (lists ws) = some fl)
theorem infoFate : (Tryz.prog.info? 155).map (fun i => (i.zero, i.size, i.bytes)) = some (some (.agg #[.int .i64 0]), 1, 8) := by kernel_rfl
theorem infoStep : (Tryz.prog.info? 61).map (·.size) = some 6 := by kernel_rfl
set_option maxRecDepth 100000 in
set_option maxHeartbeats 3200000 in
theorem read_any (w0 : ByteArray) (ws : List ByteArray) (b off n c : Nat) (w : World) (hw : WdAt w b off (w0 :: ws)) (hn : n = ws.length + 1) (hnc : n ≤ c) (hc : c ≤ 9223372036854775807) (hs : ∀ s ∈ w0 :: ws, s.size ≤ 100000000) (hn2 : n ≤ 100000000) (ht : LnT w) :
  Calls Tryz.prog 38 #[.slice (some ⟨b, off, none⟩) n c] w (ReadPost (readL w0.data.toList (lists ws)) w) := by
 have HW := yH hw
 have HT := yH ht
 have HS := yH hs
 have q0 := hw 0 (by simp)
 simp only [Nat.add_zero, List.getElem_cons_zero] at q0
 have hblt := block_lt_of_cell q0
 obtain ⟨f1, f2, f3, f4, f5, f6⟩ := shape_facts w0.data.toList
 clear hw ht hs
 have hn0 : (0 : Int) < (n : Int) := by omega
 obtain ⟨m, rfl⟩ : ∃ m, n = m + 1 := ⟨n - 1, by omega⟩
 obtain ⟨c', rfl⟩ : ∃ c', c = c' + 1 := ⟨c - 1, by omega⟩
 have hmA : ws.length ≤ m := by omega
 have hmB : m ≤ ws.length := by omega
 have hmc : m ≤ c' := by omega
 clear hn
 go_enter Tryz.func38, Tryz.ntmps38
 go_wp2_with fail
 obtain ⟨wa, hwa⟩ : ∃ wa, wa = w.alloc (Obj.cells (stepVs (zeroS 0) (.slice none 0 0) (.slice none 0 0)) 61) := ⟨_, rfl⟩
 have Ka := yH (show Blk wa w.heap.size 61 (stepVs (zeroS 0) (.slice none 0 0) (.slice none 0 0)) by rw [hwa]; exact Blk.made _ _ _)
 have La := yH (show Below w.heap.size w wa by rw [hwa]; exact (Below.refl _ _).alloc (Nat.le_refl _) _)
 unfold stepVs zeroS at hwa
 simp only at hwa
 rw [← hwa]
 clear hwa
 refine (of_anyL w0 wa).mono ?_
 rintro ev wb ⟨rfl, hbb⟩
 have Kb := yH (Ka.out.below hbb Ka.out.lt)
 have Lb := yH (below_chain La.out hbb)
 clear hbb Ka La
 generalize hk : (shapeL w0.data.toList).1 = kd at *
 generalize hf : (shapeL w0.data.toList).2 = fs at *
 have HK := yH hk
 have HF := yH hf
 clear hk hf
 obtain ⟨kn, rfl⟩ : ∃ kn : Nat, kd = kn := ⟨kd.toNat, by omega⟩
 have hfs3 := f3
 have F4 := yH f4
 have F5 := yH f5
 have F6 := yH f6
 clear f1 f2 f3 f4 f5 f6
 go_wp2
 obtain ⟨wc, hwc⟩ : ∃ wc, wc = wb.alloc (Obj.cells #[.int .u8 (kn : Int), .string ⟨fs.toArray⟩] 150) := ⟨_, rfl⟩
 have K4 := yH (show Blk wc wb.heap.size 150 #[.int .u8 (kn : Int), .string ⟨fs.toArray⟩] by rw [hwc]; exact Blk.made _ _ _)
 have L4 := yH (show Below wb.heap.size wb wc by rw [hwc]; exact (Below.refl _ _).alloc (Nat.le_refl _) _)
 rw [← hwc]
 clear hwc
 have Kc := yH (Kb.out.below L4.out Kb.out.lt)
 have Lc := yH (below_chain Lb.out L4.out)
 clear Kb Lb L4
 generalize wb.heap.size = g4 at *
 have k40 := K4.out.cell (i := 0) rfl
 refine wp_meetK (fun a (x : Nat × Nat) => (((((((a.put (some 18) (.pointer (some ⟨g4, 0, none⟩))).put (some 19) (.int .u8 (kn : Int))).put (some 20) (.agg (stepVs (zeroS kn) (.slice none 0 0) (.slice none 0 0)))).put (some 21) (.slice (some ⟨b, off, none⟩) (m + 1) (c' + 1))).put (some 22) (.slice (some ⟨b, x.2, none⟩) m c')).put (some 5) (.pointer (some ⟨x.1, 0, none⟩))).put (some 6) (.slice (some ⟨b, x.2, none⟩) m c')))
  (fun x w' => (0 < m → x.2 = off + 1) ∧ Blk w' x.1 61 (stepVs (zeroS kn) (.slice none 0 0) (.slice none 0 0)) ∧ Below wc.heap.size wc w' ∧ wc.heap.size ≤ x.1) ?_ ?_
 ·unfold stepVs zeroS
  by_cases hc0 : c' = 0
  ·subst hc0
   have hm0 : m = 0 := by omega
   subst hm0
   refine wp_region_qs (fun _ w' => w'.cell? ⟨g4, 0, none⟩ = some (.int .u8 (kn : Int))) [(0, some 1), (1, some 1), (2, some 1), (3, some 2), (4, some 2), (5, none), (6, none), (7, some 2)] (by kernel_rfl) (by kernel_rfl) (by kernel_rfl) (by kernel_rfl) (by kernel_rfl) (fun _ _ _ _ _ h => absurd h.1 (by simp)) k40 ?_
   simp only [yD, yE, yF, yG]
   (repeat (first | (refine qs_mid (v := ?_) (by rfl) ?_ ?_; rotate_left 1; (· (intro j w' hj1 hj2 hS; go_simp; (try (simp only [↓IntWalk.iteOmega]; go_simp)); (try simp (disch := omega) only [IntWalk.i64_in]); try with_reducible rfl)); simp only [Act.put, yA, yB, yC]) | (refine qs_skip (by rfl) ?_; simp only [Act.put, yA, yB, yC])))
   refine qs_act ?_
   go_wp2
   refine ⟨cell_al k40 _, ?_⟩
   refine qs_act ?_
   go_wp2
   refine ⟨cell_al k40 _, ?_⟩
   (repeat (first | (refine qs_mid (v := ?_) (by rfl) ?_ ?_; rotate_left 1; (· (intro j w' hj1 hj2 hS; go_simp; (try (simp only [↓IntWalk.iteOmega]; go_simp)); (try simp (disch := omega) only [IntWalk.i64_in]); try with_reducible rfl)); simp only [Act.put, yA, yB, yC]) | (refine qs_skip (by rfl) ?_; simp only [Act.put, yA, yB, yC])))
   refine qs_nil ?_
   exact ⟨rfl, (_, _), rfl, (fun h => by omega), (Blk.made _ _ _).drew, ((Below.refl _ _).alloc (Nat.le_refl _) _).drew, Nat.le_refl _⟩
  ·obtain ⟨c2, rfl⟩ : ∃ c2, c' = c2 + 1 := ⟨c' - 1, by omega⟩
   refine wp_region_qs (fun _ w' => w'.cell? ⟨g4, 0, none⟩ = some (.int .u8 (kn : Int))) [(0, some 1), (1, some 1), (2, some 1), (3, some 2), (4, some 2), (5, none), (6, none), (7, some 2)] (by kernel_rfl) (by kernel_rfl) (by kernel_rfl) (by kernel_rfl) (by kernel_rfl) (fun _ _ _ _ _ h => absurd h.1 (by simp)) k40 ?_
   simp only [yD, yE, yF, yG]
   (repeat (first | (refine qs_mid (v := ?_) (by rfl) ?_ ?_; rotate_left 1; (· (intro j w' hj1 hj2 hS; go_simp; (try (simp only [↓IntWalk.iteOmega]; go_simp)); (try simp (disch := omega) only [IntWalk.i64_in]); try with_reducible rfl)); simp only [Act.put, yA, yB, yC]) | (refine qs_skip (by rfl) ?_; simp only [Act.put, yA, yB, yC])))
   refine qs_act ?_
   go_wp2
   refine ⟨cell_al k40 _, ?_⟩
   refine qs_act ?_
   go_wp2
   refine ⟨cell_al k40 _, ?_⟩
   (repeat (first | (refine qs_mid (v := ?_) (by rfl) ?_ ?_; rotate_left 1; (· (intro j w' hj1 hj2 hS; go_simp; (try (simp only [↓IntWalk.iteOmega]; go_simp)); (try simp (disch := omega) only [IntWalk.i64_in]); try with_reducible rfl)); simp only [Act.put, yA, yB, yC]) | (refine qs_skip (by rfl) ?_; simp only [Act.put, yA, yB, yC])))
   refine qs_nil ?_
   exact ⟨rfl, (_, _), rfl, (fun _ => rfl), (Blk.made _ _ _).drew, ((Below.refl _ _).alloc (Nat.le_refl _) _).drew, Nat.le_refl _⟩
 rintro ⟨g5, o1⟩ wd ⟨ho1, k5, l5, hg5⟩
 simp only at ho1 k5 hg5
 have K5 := yH k5
 have K4d := yH (K4.out.below l5 K4.out.lt)
 have Kd := yH (Kc.out.below l5 Kc.out.lt)
 have Ld := yH (below_chain Lc.out l5)
 have HO1 := yH ho1
 have hg5w : w.heap.size < g5 := by have := Kc.out.lt; omega
 clear k5 l5 k40 K4 Kc ho1
 simp only [Act.put, List.setIfInBounds_toArray, List.set_cons_zero, List.set_cons_succ]
 have c0 := K4d.out.cell (i := 0) rfl
 have c1 := K4d.out.cell (i := 1) rfl
 by_cases hk0 : kn = 0
 ·have e0 : ((kn : Int) == 0) = true := by rw [hk0]; rfl
  have HR := yH (show readL w0.data.toList (lists ws) = none by unfold readL; rw [HK.out, if_pos (by rw [hk0]; rfl)])
  have KX := K5
  have KY := Kd
  have BX := Ld
  clear hk0
  unfold stepVs zeroS at KX KY
  have x0 := KX.out.cell (i := 0) rfl
  have x1 := KX.out.cell (i := 1) rfl
  have x2 := KX.out.cell (i := 2) rfl
  have x3 := KX.out.cell (i := 3) rfl
  have x4 := KX.out.cell (i := 4) rfl
  have x5 := KX.out.cell (i := 5) rfl
  have y0 := KY.out.cell (i := 0) rfl
  have z0 := KY.out.free 0
  have y1 := KY.out.cell (i := 1) rfl
  have z1 := KY.out.free 1
  have y2 := KY.out.cell (i := 2) rfl
  have z2 := KY.out.free 2
  have y3 := KY.out.cell (i := 3) rfl
  have z3 := KY.out.free 3
  have y4 := KY.out.cell (i := 4) rfl
  have z4 := KY.out.free 4
  have y5 := KY.out.cell (i := 5) rfl
  have z5 := KY.out.free 5
  go_wp2
  have S6 := six_facts KY.out (.int .u8 (kn : Int)) (.int .i64 0) (.int .i64 0) (.int .i64 0) (.slice none 0 0) (.slice none 0 0)
  refine bodyPost_ret (results_blk_tmp rfl _ w.heap.size rfl _ _ S6.1 _ Tryz.underlying61 rfl 6 infoStep rfl) rfl ?_
  refine ⟨S6.2.1 _ _ BX.out (Nat.le_refl _), ?_⟩
  rw [HR.out]
  exact ⟨zeroS kn, _, _, _, _, _, _, rfl⟩
 ·have e0 : ((kn : Int) == 0) = false := by simp; omega
  have HRd := yH (show readL w0.data.toList (lists ws) = if (kn : Int) ≠ 10 ∧ (lists ws).length ≠ fs.length then none else followX fs 0 (lists ws) (zeroS kn) by unfold readL; rw [HK.out, if_neg (by omega), HF.out])
  have hll : (lists ws).length = ws.length := by simp [lists]
  have hne5 : g5 ≠ w.heap.size := by omega
  by_cases hk10 : kn = 10
  ·have e10 : ((kn : Int) != 10) = false := by simp; omega
   have hF := F5.out (by omega)
   subst hF
   have HR := yH (show readL w0.data.toList (lists ws) = followX [102] 0 (lists ws) (zeroS kn) by rw [HRd.out, if_neg (by omega)])
   clear hk10 HRd
   go_wp2
   go_loopg [7] 1 (RdC ws kn wd.heap.size g5 w)
   case atStart =>
    have hal : Below wd.heap.size wd (wd.iter ⟨#[102]⟩ 0) := (Below.refl _ _).alloc (Nat.le_refl _) _
    exact ⟨0, [], rfl, rfl, World.iter_heap _ _ _, StAt.below ⟨_, _, K5.out, World.ownsRow_nil _ _ _ _, World.ownsRow_nil _ _ _ _⟩ hal, Kd.out.below hal Kd.out.lt, below_chain Ld.out hal, fun _ => rfl, fun h => by cases h⟩
   case round =>
    obtain ⟨i, fl0, rfl, hi, hit, hst, hky, hbel, hz0, hz1⟩ := hrel
    obtain ⟨wo, rfl⟩ : ∃ wo : World, wo = wr := ⟨_, rfl⟩
    have hwd := K5.out.lt
    generalize wd.heap.size = gi at *
    have hgi5 : gi ≠ g5 := by omega
    by_cases hi0 : i = 0
    ·subst hi0
     obtain rfl := hz0 rfl
     have h1 : (0 : Nat) < (⟨#[102]⟩ : ByteArray).size := by decide
     have hnext : ∀ ty, (Instr.next (.pointer (some ⟨gi, 0, none⟩)) true ty).run Tryz.prog wo = .ok (.tuple #[.bool true, .int .i64 0, .int .i32 102]) (wo.iterAt gi ⟨#[102]⟩ 1) := fun ty => Lib.run_next_ascii_at (P := Tryz.prog) wo gi ⟨#[102]⟩ 0 ty hit h1 (by show (102 : UInt8).toNat < 128; decide)
     have IW1 := yH (Lib.iterAt_heap wo gi ⟨#[102]⟩ 0 1 hit)
     have SW1 := yH (hst.iter (j := 1) hit)
     have KYW := yH (show Blk (wo.iterAt gi ⟨#[102]⟩ 1) w.heap.size 61 (stepVs (zeroS 0) (.slice none 0 0) (.slice none 0 0)) from (Lib.iterAt_other wo gi w.heap.size ⟨#[102]⟩ 1 (by omega)).trans hky)
     have BW1 := yH (Lib.below_iterAt hbel (show w.heap.size ≤ gi by omega) ⟨#[102]⟩ 1)
     generalize wo.iterAt gi ⟨#[102]⟩ 1 = W0 at *
     clear hit hst hky hbel hz0 hz1
     have hmw : ws.length = m := by omega
     go_wp2
     go_loopg [7, 98] m (FtI ws kn gi g5 w)
     case atStart => exact ⟨0, [], rfl, by omega, rfl, IW1.out, SW1.out, KYW.out, BW1.out, .inl ⟨rfl, by rw [List.drop_zero]; cases fatesL (lists ws) <;> rfl⟩⟩
     case round =>
      obtain ⟨j, fl, rfl, hj, hfl, hit, hst, hky, hbel, hok⟩ := hrel
      obtain ⟨W1, rfl⟩ : ∃ W1 : World, W1 = wr := ⟨_, rfl⟩
      have HFl := yH hfl
      clear hfl IW1 SW1 KYW BW1
      have HOK := yH hok
      clear hok
      by_cases hlt : j < m
      ·have hltI : (j : Int) < (m : Int) := by omega
       have hm0 : 0 < m := by omega
       obtain rfl := HO1.out hm0
       have hiw : j < ws.length := by omega
       obtain ⟨t, ht⟩ : ∃ t, ws[j]? = some t := ⟨ws[j], List.getElem?_eq_getElem hiw⟩
       have HTi := yH (show (lists ws)[j]? = some t.data.toList by unfold lists; rw [List.getElem?_map, ht]; rfl)
       have hts : t.size ≤ 100000000 := HS.out t (by have := List.mem_of_getElem? ht; simp [this])
       have qt := (HW.out.below hbel) (j + 1) (by simp; omega)
       have eix : (w0 :: ws)[j + 1]'(by simp; omega) = t := by
        rw [List.getElem_cons_succ]
        rw [List.getElem?_eq_getElem hiw] at ht
        exact Option.some.inj ht
       rw [eix, show off + (j + 1) = off + 1 + j by omega] at qt
       clear ht eix
       have IW1 := yH hit
       have SW1 := yH hst
       have KYW := yH hky
       have BW1 := yH hbel
       clear hit hst hky hbel
       have hfl2 : fl.length ≤ 100000000 := by have := HFl.out; omega
       go_wp2_with fail
       refine (number_any t W1 (HT.out.below BW1.out) hts).mono ?_
       rintro ev W2 ⟨hb2, he2⟩
       have B2 := yH (below_chain (show Below w.heap.size w W1 from BW1.out) hb2)
       have ky2 := KYW.out.below hb2 KYW.out.lt
       unfold stepVs zeroS at ky2
       obtain ⟨B, F, st1, st2, st3⟩ := (StAt.fat (SW1.out.below hb2))
       obtain ⟨BA, bc, rfl, _⟩ := own_slice st2
       obtain ⟨FA, fc, rfl, _⟩ := own_slice st3
       have ST2 := yH st2
       have ST3 := yH st3
       have it2 := (hb2.block gi (lt_of_get IW1.out)).trans IW1.out
       have x0 := st1.cell (i := 0) rfl
       have x1 := st1.cell (i := 1) rfl
       have x2 := st1.cell (i := 2) rfl
       have x3 := st1.cell (i := 3) rfl
       have x4 := st1.cell (i := 4) rfl
       have x5 := st1.cell (i := 5) rfl
       have xf := st1.free 5
       have y0 := ky2.cell (i := 0) rfl
       have z0 := ky2.free 0
       have y1 := ky2.cell (i := 1) rfl
       have z1 := ky2.free 1
       have y2 := ky2.cell (i := 2) rfl
       have z2 := ky2.free 2
       have y3 := ky2.cell (i := 3) rfl
       have z3 := ky2.free 3
       have y4 := ky2.cell (i := 4) rfl
       have z4 := ky2.free 4
       have y5 := ky2.cell (i := 5) rfl
       have z5 := ky2.free 5
       clear y0 y1 y2 y3 y4 y5 z0 z1 z2 z3 z4 z5
       cases hnv : numL t.data.toList with
       | none =>
        rw [hnv] at he2
        simp only at he2
        subst he2
        have OK2 := yH (HOK.out.bad HTi.out hnv (fl ++ [0]))
        clear hnv
        unfold wrongV
        go_wp2_with (at_builtin; refine heldW ?_)
        unfold HeldW
        refine app_src rfl (.tmp 111) (.tmp 114) 59 rfl w.heap.size 155 _ 1 8 Tryz.underlying59 infoFate rfl (by omega) _ fl.length _ rfl (ST3.out.alloc _) _ 1 [Value.int .i64 0] rfl (src8 _ _ _) (by simp [Value.oneCell']) (by omega) (by omega) (by have := B2.out.size; simp; omega) ?_
        intro v3 W3 ho3 hg3 hor3
        have O3 := yH ho3
        have G3 := yH hg3
        obtain ⟨A3, c3, rfl, _⟩ := own_slice ho3
        clear ho3 hg3 hor3
        have p3 := blk_grown_own st1 ST3.out (by decide) G3.out
        have k3 := blk_grown_own ky2 ST3.out (by decide) G3.out
        have i3 := yH (iter_grown_own it2 ST3.out G3.out)
        have b3 := yH (own_keep_ty ST2.out ST3.out (by decide) G3.out)
        have L3 := yH ((B2.out.alloc B2.out.size _).grown G3.out (by have := B2.out.size; simp; omega) (fun k hk => (ST3.out.lt k hk).1))
        have x5' := p3.cell (i := 5) rfl
        have xf5 := p3.free 5
        clear x0 x1 x2 x3 x4 x5 xf
        go_wp2
        go_roundg (gk - 1)
        case measure => omega
        case rel =>
         refine ⟨j + 1, fl ++ [0], by go_num, by omega, (by have := HFl.out; simp; omega), ?_, StAt.set (y := fatS kn fl) (y' := fatS kn (fl ++ [0])) (j := 5) (v := .slice A3 (fl.length + 1) c3) p3 b3.out (by have h := O3.out; simpa [fatS] using h) rfl, k3.else_ (show w.heap.size ≠ (⟨g5, 5, none⟩ : Addr).block from fun e => hne5 e.symm) _, bel_put L3.out (by omega) _ _, OK2.out⟩
         exact (Below.heap_setCell W3 ⟨g5, 5, none⟩ (.slice A3 (fl.length + 1) c3) gi (fun e => hgi5 e)).trans i3.out
       | some v =>
        rw [hnv] at he2
        simp only at he2
        subst he2
        have OK2 := yH (HOK.out.good HTi.out hnv)
        clear hnv
        go_wp2_with (at_builtin; refine heldW ?_)
        unfold HeldW
        refine app_src rfl (.tmp 111) (.tmp 114) 59 rfl w.heap.size 155 _ 1 8 Tryz.underlying59 infoFate rfl (by omega) _ fl.length _ rfl (ST3.out.alloc _) _ 1 [Value.int .i64 v] rfl (src8 _ _ _) (by simp [Value.oneCell']) (by omega) (by omega) (by have := B2.out.size; simp; omega) ?_
        intro v3 W3 ho3 hg3 hor3
        have O3 := yH ho3
        have G3 := yH hg3
        obtain ⟨A3, c3, rfl, _⟩ := own_slice ho3
        clear ho3 hg3 hor3
        have p3 := blk_grown_own st1 ST3.out (by decide) G3.out
        have k3 := blk_grown_own ky2 ST3.out (by decide) G3.out
        have i3 := yH (iter_grown_own it2 ST3.out G3.out)
        have b3 := yH (own_keep_ty ST2.out ST3.out (by decide) G3.out)
        have L3 := yH ((B2.out.alloc B2.out.size _).grown G3.out (by have := B2.out.size; simp; omega) (fun k hk => (ST3.out.lt k hk).1))
        have x5' := p3.cell (i := 5) rfl
        have xf5 := p3.free 5
        clear x0 x1 x2 x3 x4 x5 xf
        go_wp2
        go_roundg (gk - 1)
        case measure => omega
        case rel =>
         refine ⟨j + 1, fl ++ [v], by go_num, by omega, (by have := HFl.out; simp; omega), ?_, StAt.set (y := fatS kn fl) (y' := fatS kn (fl ++ [v])) (j := 5) (v := .slice A3 (fl.length + 1) c3) p3 b3.out (by have h := O3.out; simpa [fatS] using h) rfl, k3.else_ (show w.heap.size ≠ (⟨g5, 5, none⟩ : Addr).block from fun e => hne5 e.symm) _, bel_put L3.out (by omega) _ _, OK2.out⟩
         exact (Below.heap_setCell W3 ⟨g5, 5, none⟩ (.slice A3 (fl.length + 1) c3) gi (fun e => hgi5 e)).trans i3.out
      ·have hltI : ¬ (j : Int) < (m : Int) := by omega
       have hdrop : (lists ws).drop j = [] := List.drop_eq_nil_of_le (by rw [hll]; omega)
       rcases HOK.out with ⟨rfl, hok⟩ | ⟨rfl, hok⟩
       ·rw [hdrop] at hok
        have hok2 := yH (show fatesL (lists ws) = some fl by rw [hok]; simp [fatesL])
        have IW1 := yH hit
        have SW1 := yH hst
        have KYW := yH hky
        have BW1 := yH hbel
        clear hdrop hok hit hst hky hbel
        go_wp2
        go_roundg 0
        case measure => omega
        case rel => exact ⟨1, fl, rfl, rfl, IW1.out, SW1.out, KYW.out, BW1.out, (fun h => by cases h), fun _ => hok2.out⟩
       ·have HRs := yH (show readL w0.data.toList (lists ws) = none by
         rw [HR.out, followX]; unfold fieldX; rw [if_pos rfl, hok]; rfl)
        clear hdrop hok
        generalize fatS kn fl = y at *
        have HBel := yH hbel
        clear hit hbel
        unfold wrongV
        obtain ⟨B, F, st1, st2, st3⟩ := hst
        obtain ⟨BA, bc, rfl, _⟩ := own_slice st2
        obtain ⟨FA, fc, rfl, _⟩ := own_slice st3
        have ST2 := yH st2
        have ST3 := yH st3
        unfold stepVs zeroS at hky
        have x0 := st1.cell (i := 0) rfl
        have x1 := st1.cell (i := 1) rfl
        have x2 := st1.cell (i := 2) rfl
        have x3 := st1.cell (i := 3) rfl
        have x4 := st1.cell (i := 4) rfl
        have x5 := st1.cell (i := 5) rfl
        have y0 := hky.cell (i := 0) rfl
        have z0 := hky.free 0
        have y1 := hky.cell (i := 1) rfl
        have z1 := hky.free 1
        have y2 := hky.cell (i := 2) rfl
        have z2 := hky.free 2
        have y3 := hky.cell (i := 3) rfl
        have z3 := hky.free 3
        have y4 := hky.cell (i := 4) rfl
        have z4 := hky.free 4
        have y5 := hky.cell (i := 5) rfl
        have z5 := hky.free 5
        clear st1 st2 st3
        go_wp2
        have S6 := six_facts hky (.int .u8 y.kind) (.int .i64 y.pos) (.int .i64 y.n) (.int .i64 y.snap) (.slice BA y.bytes.length bc) (.slice FA y.fates.length fc)
        refine bodyPost_ret (results_blk_tmp rfl _ w.heap.size rfl _ _ S6.1 _ Tryz.underlying61 rfl 6 infoStep rfl) rfl ?_
        refine ⟨S6.2.1 _ _ HBel.out (Nat.le_refl _), ?_⟩
        rw [HRs.out]
        exact ⟨y, _, _, _, _, _, _, rfl⟩
    ·have hi1 : i = 1 := by omega
     subst hi1
     have hfl := hz1 rfl
     have hnext : ∀ ty, (Instr.next (.pointer (some ⟨gi, 0, none⟩)) true ty).run Tryz.prog wo = .ok (.tuple #[.bool false]) wo := fun ty => Lib.run_next_end_at wo gi _ 1 ty hit (by decide)
     have HRs := yH (show readL w0.data.toList (lists ws) = some (fatS kn fl0) by
      rw [HR.out, followX]; unfold fieldX; rw [if_pos rfl, hfl]; rfl)
     clear hz0 hz1 hfl hi0
     generalize fatS kn fl0 = y at *
     have HBel := yH hbel
     clear hit hbel
     obtain ⟨B, F, st1, st2, st3⟩ := hst
     obtain ⟨BA, bc, rfl, _⟩ := own_slice st2
     obtain ⟨FA, fc, rfl, _⟩ := own_slice st3
     have ST2 := yH st2
     have ST3 := yH st3
     unfold stepVs zeroS at hky
     have x0 := st1.cell (i := 0) rfl
     have x1 := st1.cell (i := 1) rfl
     have x2 := st1.cell (i := 2) rfl
     have x3 := st1.cell (i := 3) rfl
     have x4 := st1.cell (i := 4) rfl
     have x5 := st1.cell (i := 5) rfl
     have y0 := hky.cell (i := 0) rfl
     have z0 := hky.free 0
     have y1 := hky.cell (i := 1) rfl
     have z1 := hky.free 1
     have y2 := hky.cell (i := 2) rfl
     have z2 := hky.free 2
     have y3 := hky.cell (i := 3) rfl
     have z3 := hky.free 3
     have y4 := hky.cell (i := 4) rfl
     have z4 := hky.free 4
     have y5 := hky.cell (i := 5) rfl
     have z5 := hky.free 5
     clear st1 st2 st3
     go_wp2
     have S6 := six_facts hky (.int .u8 y.kind) (.int .i64 y.pos) (.int .i64 y.n) (.int .i64 y.snap) (.slice BA y.bytes.length bc) (.slice FA y.fates.length fc)
     refine bodyPost_ret (results_blk_tmp rfl _ w.heap.size rfl _ _ S6.1 _ Tryz.underlying61 rfl 6 infoStep rfl) rfl ?_
     refine ⟨S6.2.1 _ _ HBel.out (Nat.le_refl _), ?_⟩
     rw [HRs.out]
     exact ⟨_, _, rfl, S6.2.2 _ _ _ _ _ _ ST2.out (by decide), S6.2.2 _ _ _ _ _ _ ST3.out (by decide)⟩
  ·have e10 : ((kn : Int) != 10) = true := by simp; omega
   by_cases hlen : m = fs.length
   ·have elen : ((m : Int) != (fs.length : Int)) = false := by simp; omega
    have HR := yH (show readL w0.data.toList (lists ws) = followX fs 0 (lists ws) (zeroS kn) by rw [HRd.out, if_neg (by rw [hll]; omega)])
    have h102 : 102 ∉ fs := F6.out (by omega)
    have HL := yH hlen
    clear hlen hk10 HRd
    go_wp2
    go_loopg [7] fs.length (RdL fs (lists ws) (zeroS kn) wd.heap.size g5 w)
    case atStart =>
     have hal : Below wd.heap.size wd (wd.iter ⟨fs.toArray⟩ 0) := (Below.refl _ _).alloc (Nat.le_refl _) _
     exact ⟨0, zeroS kn, rfl, by omega, World.iter_heap _ _ _, StAt.below ⟨_, _, K5.out, World.ownsRow_nil _ _ _ _, World.ownsRow_nil _ _ _ _⟩ hal, Kd.out.below hal Kd.out.lt, below_chain Ld.out hal, rfl⟩
    case round =>
     obtain ⟨i, y, rfl, hi, hit, hst, hky, hbel, heq⟩ := hrel
     have hwd := K5.out.lt
     generalize wd.heap.size = gi at *
     have hgi5 : gi ≠ g5 := by omega
     have HEq := yH heq
     clear heq
     by_cases hlt : i < fs.length
     ·obtain ⟨f, hfi, hfm, hdr⟩ := get_fs hlt
      obtain ⟨hh, hbf⟩ := ba_fs hfi
      have hv := F4.out f hfm
      have h128 : (((⟨fs.toArray⟩ : ByteArray)[i]'hh)).toNat < 128 := by rw [hbf]; rcases hv with h | h | h | h | h <;> subst h <;> decide
      have hnext : ∀ ty, (Instr.next (.pointer (some ⟨gi, 0, none⟩)) true ty).run Tryz.prog wr = .ok (.tuple #[.bool true, .int .i64 i, .int .i32 (f.toNat : Int)]) (wr.iterAt gi ⟨fs.toArray⟩ (i + 1)) := fun ty => by
       have := Lib.run_next_ascii_at (P := Tryz.prog) wr gi ⟨fs.toArray⟩ i ty hit hh h128
       rw [hbf] at this
       exact this
      have HDr := yH hdr
      have IW1 := yH (Lib.iterAt_heap wr gi ⟨fs.toArray⟩ i (i + 1) hit)
      have SW1 := yH (hst.iter (j := i + 1) hit)
      have KYW := yH (show Blk (wr.iterAt gi ⟨fs.toArray⟩ (i + 1)) w.heap.size 61 (stepVs (zeroS 0) (.slice none 0 0) (.slice none 0 0)) from (Lib.iterAt_other wr gi w.heap.size ⟨fs.toArray⟩ (i + 1) (by omega)).trans hky)
      have BW1 := yH (Lib.below_iterAt hbel (show w.heap.size ≤ gi by omega) ⟨fs.toArray⟩ (i + 1))
      generalize wr.iterAt gi ⟨fs.toArray⟩ (i + 1) = W1 at *
      clear hit hst hky hbel hdr hh hbf h128
      have hiw : i < ws.length := by have := HL.out; omega
      have hm0 : 0 < m := by omega
      obtain rfl := HO1.out hm0
      obtain ⟨t, ht⟩ : ∃ t, ws[i]? = some t := ⟨ws[i], List.getElem?_eq_getElem hiw⟩
      have HTi := yH (show (lists ws)[i]? = some t.data.toList by unfold lists; rw [List.getElem?_map, ht]; rfl)
      have hts : t.size ≤ 100000000 := HS.out t (by have := List.mem_of_getElem? ht; simp [this])
      have qt := (HW.out.below BW1.out) (i + 1) (by simp; omega)
      have eix : (w0 :: ws)[i + 1]'(by simp; omega) = t := by
       rw [List.getElem_cons_succ]
       rw [List.getElem?_eq_getElem hiw] at ht
       exact Option.some.inj ht
      rw [eix, show off + (i + 1) = off + 1 + i by omega] at qt
      clear ht eix
      have hltI : (i : Int) < (m : Int) := by omega
      rcases hv with hfv | hfv | hfv | hfv | hfv
      ·have hf : (f.toNat : Int) = 97 := by rw [hfv]; rfl
       have HFX := yH (show fieldX f i (lists ws) y = (numL t.data.toList).map fun v => { y with pos := v } by unfold fieldX; rw [if_neg (by rw [hfv]; decide), HTi.out]; unfold fieldL; simp [hfv])
       clear hfv
       go_wp2_with fail
       refine (number_any t W1 (HT.out.below BW1.out) hts).mono ?_
       rintro ev W2 ⟨hb2, he2⟩
       have B2 := yH (below_chain (show Below w.heap.size w W1 from BW1.out) hb2)
       have ky2 := KYW.out.below hb2 KYW.out.lt
       unfold stepVs zeroS at ky2
       obtain ⟨B, F, st1, st2, st3⟩ := (SW1.out.below hb2)
       obtain ⟨BA, bc, rfl, _⟩ := own_slice st2
       obtain ⟨FA, fc, rfl, _⟩ := own_slice st3
       have ST2 := yH st2
       have ST3 := yH st3
       have it2 := (hb2.block gi (lt_of_get IW1.out)).trans IW1.out
       have x0 := st1.cell (i := 0) rfl
       have x1 := st1.cell (i := 1) rfl
       have x2 := st1.cell (i := 2) rfl
       have x3 := st1.cell (i := 3) rfl
       have x4 := st1.cell (i := 4) rfl
       have x5 := st1.cell (i := 5) rfl
       have xf := st1.free 1
       have y0 := ky2.cell (i := 0) rfl
       have z0 := ky2.free 0
       have y1 := ky2.cell (i := 1) rfl
       have z1 := ky2.free 1
       have y2 := ky2.cell (i := 2) rfl
       have z2 := ky2.free 2
       have y3 := ky2.cell (i := 3) rfl
       have z3 := ky2.free 3
       have y4 := ky2.cell (i := 4) rfl
       have z4 := ky2.free 4
       have y5 := ky2.cell (i := 5) rfl
       have z5 := ky2.free 5
       cases hnv : numL t.data.toList with
       | none =>
        rw [hnv] at he2 HFX
        simp only at he2
        subst he2
        have HRn := yH (show readL w0.data.toList (lists ws) = none by rw [HR.out, HEq.out, HDr.out, followX, HFX.out]; rfl)
        unfold wrongV
        go_wp2
        have S6 := six_facts (ky2.else_ (show w.heap.size ≠ (⟨g5, 1, none⟩ : Addr).block from fun e => hne5 e.symm) (.int .i64 0)) (.int .u8 y.kind) (.int .i64 0) (.int .i64 y.n) (.int .i64 y.snap) (.slice BA y.bytes.length bc) (.slice FA y.fates.length fc)
        refine bodyPost_ret (results_blk_tmp rfl _ w.heap.size rfl _ _ S6.1 _ Tryz.underlying61 rfl 6 infoStep rfl) rfl ?_
        refine ⟨S6.2.1 _ _ (bel_put B2.out (by omega) _ _) (Nat.le_refl _), ?_⟩
        rw [HRn.out]
        exact ⟨{ y with pos := 0 }, _, _, _, _, _, _, rfl⟩
       | some v =>
        rw [hnv] at he2 HFX
        simp only at he2
        subst he2
        clear y0 y1 y2 y3 y4 y5 z0 z1 z2 z3 z4 z5
        go_wp2
        go_roundg (gk - 1)
        case measure => omega
        case rel =>
         refine ⟨i + 1, { y with pos := v }, rfl, by omega, ?_, StAt.num (y := y) (j := 1) (v := .int .i64 v) st1 ST2.out ST3.out rfl rfl rfl, ky2.else_ (show w.heap.size ≠ (⟨g5, 1, none⟩ : Addr).block from fun e => hne5 e.symm) _, bel_put B2.out (by omega) _ _, ?_⟩
         ·exact (Below.heap_setCell W2 ⟨g5, 1, none⟩ (.int .i64 v) gi (fun e => hgi5 e)).trans it2
         ·rw [HEq.out, HDr.out, followX, HFX.out]; rfl
      ·have hf : (f.toNat : Int) = 110 := by rw [hfv]; rfl
       have HFX := yH (show fieldX f i (lists ws) y = (numL t.data.toList).map fun v => { y with n := v } by unfold fieldX; rw [if_neg (by rw [hfv]; decide), HTi.out]; unfold fieldL; simp [hfv])
       clear hfv
       go_wp2_with fail
       refine (number_any t W1 (HT.out.below BW1.out) hts).mono ?_
       rintro ev W2 ⟨hb2, he2⟩
       have B2 := yH (below_chain (show Below w.heap.size w W1 from BW1.out) hb2)
       have ky2 := KYW.out.below hb2 KYW.out.lt
       unfold stepVs zeroS at ky2
       obtain ⟨B, F, st1, st2, st3⟩ := (SW1.out.below hb2)
       obtain ⟨BA, bc, rfl, _⟩ := own_slice st2
       obtain ⟨FA, fc, rfl, _⟩ := own_slice st3
       have ST2 := yH st2
       have ST3 := yH st3
       have it2 := (hb2.block gi (lt_of_get IW1.out)).trans IW1.out
       have x0 := st1.cell (i := 0) rfl
       have x1 := st1.cell (i := 1) rfl
       have x2 := st1.cell (i := 2) rfl
       have x3 := st1.cell (i := 3) rfl
       have x4 := st1.cell (i := 4) rfl
       have x5 := st1.cell (i := 5) rfl
       have xf := st1.free 2
       have y0 := ky2.cell (i := 0) rfl
       have z0 := ky2.free 0
       have y1 := ky2.cell (i := 1) rfl
       have z1 := ky2.free 1
       have y2 := ky2.cell (i := 2) rfl
       have z2 := ky2.free 2
       have y3 := ky2.cell (i := 3) rfl
       have z3 := ky2.free 3
       have y4 := ky2.cell (i := 4) rfl
       have z4 := ky2.free 4
       have y5 := ky2.cell (i := 5) rfl
       have z5 := ky2.free 5
       cases hnv : numL t.data.toList with
       | none =>
        rw [hnv] at he2 HFX
        simp only at he2
        subst he2
        have HRn := yH (show readL w0.data.toList (lists ws) = none by rw [HR.out, HEq.out, HDr.out, followX, HFX.out]; rfl)
        unfold wrongV
        go_wp2
        have S6 := six_facts (ky2.else_ (show w.heap.size ≠ (⟨g5, 2, none⟩ : Addr).block from fun e => hne5 e.symm) (.int .i64 0)) (.int .u8 y.kind) (.int .i64 y.pos) (.int .i64 0) (.int .i64 y.snap) (.slice BA y.bytes.length bc) (.slice FA y.fates.length fc)
        refine bodyPost_ret (results_blk_tmp rfl _ w.heap.size rfl _ _ S6.1 _ Tryz.underlying61 rfl 6 infoStep rfl) rfl ?_
        refine ⟨S6.2.1 _ _ (bel_put B2.out (by omega) _ _) (Nat.le_refl _), ?_⟩
        rw [HRn.out]
        exact ⟨{ y with n := 0 }, _, _, _, _, _, _, rfl⟩
       | some v =>
        rw [hnv] at he2 HFX
        simp only at he2
        subst he2
        clear y0 y1 y2 y3 y4 y5 z0 z1 z2 z3 z4 z5
        go_wp2
        go_roundg (gk - 1)
        case measure => omega
        case rel =>
         refine ⟨i + 1, { y with n := v }, rfl, by omega, ?_, StAt.num (y := y) (j := 2) (v := .int .i64 v) st1 ST2.out ST3.out rfl rfl rfl, ky2.else_ (show w.heap.size ≠ (⟨g5, 2, none⟩ : Addr).block from fun e => hne5 e.symm) _, bel_put B2.out (by omega) _ _, ?_⟩
         ·exact (Below.heap_setCell W2 ⟨g5, 2, none⟩ (.int .i64 v) gi (fun e => hgi5 e)).trans it2
         ·rw [HEq.out, HDr.out, followX, HFX.out]; rfl
      ·have hf : (f.toNat : Int) = 115 := by rw [hfv]; rfl
       have HFX := yH (show fieldX f i (lists ws) y = (numL t.data.toList).map fun v => { y with snap := v } by unfold fieldX; rw [if_neg (by rw [hfv]; decide), HTi.out]; unfold fieldL; simp [hfv])
       clear hfv
       go_wp2_with fail
       refine (number_any t W1 (HT.out.below BW1.out) hts).mono ?_
       rintro ev W2 ⟨hb2, he2⟩
       have B2 := yH (below_chain (show Below w.heap.size w W1 from BW1.out) hb2)
       have ky2 := KYW.out.below hb2 KYW.out.lt
       unfold stepVs zeroS at ky2
       obtain ⟨B, F, st1, st2, st3⟩ := (SW1.out.below hb2)
       obtain ⟨BA, bc, rfl, _⟩ := own_slice st2
       obtain ⟨FA, fc, rfl, _⟩ := own_slice st3
       have ST2 := yH st2
       have ST3 := yH st3
       have it2 := (hb2.block gi (lt_of_get IW1.out)).trans IW1.out
       have x0 := st1.cell (i := 0) rfl
       have x1 := st1.cell (i := 1) rfl
       have x2 := st1.cell (i := 2) rfl
       have x3 := st1.cell (i := 3) rfl
       have x4 := st1.cell (i := 4) rfl
       have x5 := st1.cell (i := 5) rfl
       have xf := st1.free 3
       have y0 := ky2.cell (i := 0) rfl
       have z0 := ky2.free 0
       have y1 := ky2.cell (i := 1) rfl
       have z1 := ky2.free 1
       have y2 := ky2.cell (i := 2) rfl
       have z2 := ky2.free 2
       have y3 := ky2.cell (i := 3) rfl
       have z3 := ky2.free 3
       have y4 := ky2.cell (i := 4) rfl
       have z4 := ky2.free 4
       have y5 := ky2.cell (i := 5) rfl
       have z5 := ky2.free 5
       cases hnv : numL t.data.toList with
       | none =>
        rw [hnv] at he2 HFX
        simp only at he2
        subst he2
        have HRn := yH (show readL w0.data.toList (lists ws) = none by rw [HR.out, HEq.out, HDr.out, followX, HFX.out]; rfl)
        unfold wrongV
        go_wp2
        have S6 := six_facts (ky2.else_ (show w.heap.size ≠ (⟨g5, 3, none⟩ : Addr).block from fun e => hne5 e.symm) (.int .i64 0)) (.int .u8 y.kind) (.int .i64 y.pos) (.int .i64 y.n) (.int .i64 0) (.slice BA y.bytes.length bc) (.slice FA y.fates.length fc)
        refine bodyPost_ret (results_blk_tmp rfl _ w.heap.size rfl _ _ S6.1 _ Tryz.underlying61 rfl 6 infoStep rfl) rfl ?_
        refine ⟨S6.2.1 _ _ (bel_put B2.out (by omega) _ _) (Nat.le_refl _), ?_⟩
        rw [HRn.out]
        exact ⟨{ y with snap := 0 }, _, _, _, _, _, _, rfl⟩
       | some v =>
        rw [hnv] at he2 HFX
        simp only at he2
        subst he2
        clear y0 y1 y2 y3 y4 y5 z0 z1 z2 z3 z4 z5
        go_wp2
        go_roundg (gk - 1)
        case measure => omega
        case rel =>
         refine ⟨i + 1, { y with snap := v }, rfl, by omega, ?_, StAt.num (y := y) (j := 3) (v := .int .i64 v) st1 ST2.out ST3.out rfl rfl rfl, ky2.else_ (show w.heap.size ≠ (⟨g5, 3, none⟩ : Addr).block from fun e => hne5 e.symm) _, bel_put B2.out (by omega) _ _, ?_⟩
         ·exact (Below.heap_setCell W2 ⟨g5, 3, none⟩ (.int .i64 v) gi (fun e => hgi5 e)).trans it2
         ·rw [HEq.out, HDr.out, followX, HFX.out]; rfl
      ·have hf : (f.toNat : Int) = 98 := by rw [hfv]; rfl
       have HFX := yH (show fieldX f i (lists ws) y = (unhexL t.data.toList).map fun b => { y with bytes := b } by unfold fieldX; rw [if_neg (by rw [hfv]; decide), HTi.out]; unfold fieldL; simp [hfv])
       clear hfv
       go_wp2_with fail
       refine (unhex_any t W1   hts).mono ?_
       rintro ev W2 ⟨hb2, he2⟩
       have B2 := yH (below_chain (show Below w.heap.size w W1 from BW1.out) hb2)
       have ky2 := KYW.out.below hb2 KYW.out.lt
       unfold stepVs zeroS at ky2
       obtain ⟨B, F, st1, st2, st3⟩ := (SW1.out.below hb2)
       obtain ⟨BA, bc, rfl, _⟩ := own_slice st2
       obtain ⟨FA, fc, rfl, _⟩ := own_slice st3
       have ST2 := yH st2
       have ST3 := yH st3
       have it2 := (hb2.block gi (lt_of_get IW1.out)).trans IW1.out
       have x0 := st1.cell (i := 0) rfl
       have x1 := st1.cell (i := 1) rfl
       have x2 := st1.cell (i := 2) rfl
       have x3 := st1.cell (i := 3) rfl
       have x4 := st1.cell (i := 4) rfl
       have x5 := st1.cell (i := 5) rfl
       have xf := st1.free 4
       have y0 := ky2.cell (i := 0) rfl
       have z0 := ky2.free 0
       have y1 := ky2.cell (i := 1) rfl
       have z1 := ky2.free 1
       have y2 := ky2.cell (i := 2) rfl
       have z2 := ky2.free 2
       have y3 := ky2.cell (i := 3) rfl
       have z3 := ky2.free 3
       have y4 := ky2.cell (i := 4) rfl
       have z4 := ky2.free 4
       have y5 := ky2.cell (i := 5) rfl
       have z5 := ky2.free 5
       cases hnv : unhexL t.data.toList with
       | none =>
        rw [hnv] at he2 HFX
        simp only at he2
        subst he2
        have HRn := yH (show readL w0.data.toList (lists ws) = none by rw [HR.out, HEq.out, HDr.out, followX, HFX.out]; rfl)
        unfold wrongV
        go_wp2
        have S6 := six_facts (ky2.else_ (show w.heap.size ≠ (⟨g5, 4, none⟩ : Addr).block from fun e => hne5 e.symm) (.slice none 0 0)) (.int .u8 y.kind) (.int .i64 y.pos) (.int .i64 y.n) (.int .i64 y.snap) (.slice none 0 0) (.slice FA y.fates.length fc)
        refine bodyPost_ret (results_blk_tmp rfl _ w.heap.size rfl _ _ S6.1 _ Tryz.underlying61 rfl 6 infoStep rfl) rfl ?_
        refine ⟨S6.2.1 _ _ (bel_put B2.out (by omega) _ _) (Nat.le_refl _), ?_⟩
        rw [HRn.out]
        exact ⟨{ y with bytes := [] }, _, _, _, _, _, _, rfl⟩
       | some o =>
        rw [hnv] at he2 HFX
        simp only at he2
        obtain ⟨Ao, co, rfl, ho2⟩ := he2
        have HO2 := yH (own_base8 ho2 BW1.out.size)
        clear ho2
        clear y0 y1 y2 y3 y4 y5 z0 z1 z2 z3 z4 z5
        go_wp2
        go_roundg (gk - 1)
        case measure => omega
        case rel =>
         refine ⟨i + 1, { y with bytes := o }, rfl, by omega, ?_, StAt.set (y := y) (j := 4) (v := .slice Ao o.length co) st1 HO2.out ST3.out rfl, ky2.else_ (show w.heap.size ≠ (⟨g5, 4, none⟩ : Addr).block from fun e => hne5 e.symm) _, bel_put B2.out (by omega) _ _, ?_⟩
         ·exact (Below.heap_setCell W2 ⟨g5, 4, none⟩ (.slice Ao o.length co) gi (fun e => hgi5 e)).trans it2
         ·rw [HEq.out, HDr.out, followX, HFX.out]; rfl
      ·exact absurd (hfv ▸ hfm) h102
     ·have hnext : ∀ ty, (Instr.next (.pointer (some ⟨gi, 0, none⟩)) true ty).run Tryz.prog wr = .ok (.tuple #[.bool false]) wr := fun ty => Lib.run_next_end_at wr gi _ i ty hit (by show ¬ i < fs.toArray.size; simp; omega)
      have HRs := yH (show readL w0.data.toList (lists ws) = some y by rw [HR.out, HEq.out, List.drop_eq_nil_of_le (by omega), followX])
      have HBel := yH hbel
      clear hit hbel
      obtain ⟨B, F, st1, st2, st3⟩ := hst
      obtain ⟨BA, bc, rfl, _⟩ := own_slice st2
      obtain ⟨FA, fc, rfl, _⟩ := own_slice st3
      have ST2 := yH st2
      have ST3 := yH st3
      unfold stepVs zeroS at hky
      have x0 := st1.cell (i := 0) rfl
      have x1 := st1.cell (i := 1) rfl
      have x2 := st1.cell (i := 2) rfl
      have x3 := st1.cell (i := 3) rfl
      have x4 := st1.cell (i := 4) rfl
      have x5 := st1.cell (i := 5) rfl
      have y0 := hky.cell (i := 0) rfl
      have z0 := hky.free 0
      have y1 := hky.cell (i := 1) rfl
      have z1 := hky.free 1
      have y2 := hky.cell (i := 2) rfl
      have z2 := hky.free 2
      have y3 := hky.cell (i := 3) rfl
      have z3 := hky.free 3
      have y4 := hky.cell (i := 4) rfl
      have z4 := hky.free 4
      have y5 := hky.cell (i := 5) rfl
      have z5 := hky.free 5
      clear st1 st2 st3
      go_wp2
      have S6 := six_facts hky (.int .u8 y.kind) (.int .i64 y.pos) (.int .i64 y.n) (.int .i64 y.snap) (.slice BA y.bytes.length bc) (.slice FA y.fates.length fc)
      refine bodyPost_ret (results_blk_tmp rfl _ w.heap.size rfl _ _ S6.1 _ Tryz.underlying61 rfl 6 infoStep rfl) rfl ?_
      refine ⟨S6.2.1 _ _ HBel.out (Nat.le_refl _), ?_⟩
      rw [HRs.out]
      exact ⟨_, _, rfl, S6.2.2 _ _ _ _ _ _ ST2.out (by decide), S6.2.2 _ _ _ _ _ _ ST3.out (by decide)⟩
   ·have elen : ((m : Int) != (fs.length : Int)) = true := by simp; omega
    have HR := yH (show readL w0.data.toList (lists ws) = none by rw [HRd.out, if_pos ⟨by omega, by rw [hll]; omega⟩])
    have KX := K5
    have KY := Kd
    have BX := Ld
    clear hk0 hk10 hlen
    unfold stepVs zeroS at KX KY
    have x0 := KX.out.cell (i := 0) rfl
    have x1 := KX.out.cell (i := 1) rfl
    have x2 := KX.out.cell (i := 2) rfl
    have x3 := KX.out.cell (i := 3) rfl
    have x4 := KX.out.cell (i := 4) rfl
    have x5 := KX.out.cell (i := 5) rfl
    have y0 := KY.out.cell (i := 0) rfl
    have z0 := KY.out.free 0
    have y1 := KY.out.cell (i := 1) rfl
    have z1 := KY.out.free 1
    have y2 := KY.out.cell (i := 2) rfl
    have z2 := KY.out.free 2
    have y3 := KY.out.cell (i := 3) rfl
    have z3 := KY.out.free 3
    have y4 := KY.out.cell (i := 4) rfl
    have z4 := KY.out.free 4
    have y5 := KY.out.cell (i := 5) rfl
    have z5 := KY.out.free 5
    go_wp2
    have S6 := six_facts KY.out (.int .u8 (kn : Int)) (.int .i64 0) (.int .i64 0) (.int .i64 0) (.slice none 0 0) (.slice none 0 0)
    refine bodyPost_ret (results_blk_tmp rfl _ w.heap.size rfl _ _ S6.1 _ Tryz.underlying61 rfl 6 infoStep rfl) rfl ?_
    refine ⟨S6.2.1 _ _ BX.out (Nat.le_refl _), ?_⟩
    rw [HR.out]
    exact ⟨zeroS kn, _, _, _, _, _, _, rfl⟩
end Go.Proofs.YtffalfacakdhkaaGreatDoor
