/-
  deflate.made.
  bitio.Writer.Align.
  deflate's writer: a symbol and the bits behind it.
  deflate's writer: pieces, and the end behind them.
  deflate.of: the code that weights want.
-/
import Derived.Test.YtlhaehefhhcgaaaDoorHuffCodes
import Derived.Test.YtlhaehefhhcgaaaDoorWriter
import Derived.Test.YtlhaehefhhcgaaaDoorDPlains
import Derived.Test.YtlhaehefhhcgaaaDoorDeflA
import Derived.Test.YtlhaehefhhcgaaaDoorLengths
import Derived.Test.YtlhaehefhhcgaaaDoorStable
namespace Go.Proofs.YtlhaehefhhcgaaaDoor
open Go.RowKit
set_option linter.unusedVariables false

def DMadePost (zs : List Int) (A : Option Addr) (n cap : Nat) (w : World) (ev : Ending) (w' : World) : Prop :=
  ∃ A2 c2, ev = .returned (.agg #[.slice A n cap, .slice A2 n c2]) ∧ w'.ownsRow w.heap.size 3 1 (.slice A2 n c2) n ((codesOf zs).map (Value.int .i64)) ∧ Below w.heap.size w w'
end Go.Proofs.YtlhaehefhhcgaaaDoor
namespace Go.Proofs.YtlhaehefhhcgaaaDoor
open Go.RowKit
set_option linter.unusedVariables false

theorem bitsL_zero : ∀ k, bitsL 0 k = List.replicate k 0
  | 0 => rfl
  | k + 1 => by simp only [bitsL, List.replicate_succ]; rw [show 0 / 2 = 0 from rfl, bitsL_zero k]; rfl
def WAlignPost (bt : List Int) (g : Nat) (own : Option Nat) (w : World) (ev : Ending) (w' : World) : Prop :=
  ev = .returned (.tuple #[]) ∧ ∃ own', WrOk w' g own' (bt ++ List.replicate ((8 - bt.length % 8) % 8) 0) ∧ WrStep w w' g own own'
theorem walign_any (bt : List Int) (g : Nat) (own : Option Nat) (w : World) (h : WrOk w g own bt) (hl : bt.length ≤ 1000000000) :
    Calls Tryd.prog 20 #[.pointer (some ⟨g, 0, none⟩)] w (WAlignPost bt g own w) := by
  have H := Lib.hid h
  obtain ⟨sv, bs, rest, n, ⟨hb, ho, hB⟩, hown, hn, hrest, hlen, hnum, h01⟩ := h
  have c3 := hb.cell (i := 3) (v := .int .i64 (n : Int)) rfl
  have HLen := Lib.hid hlen
  clear hb ho hB hown hrest hlen hnum h01
  by_cases h0 : n = 0
  · subst h0
    have e : (8 - bt.length % 8) % 8 = 0 := by have := HLen.out; omega
    go_enter Tryd.func20, Tryd.ntmps20
    go_wp2
    go_end0
    refine ⟨rfl, own, ?_, WrStep.refl _ _ _⟩
    rw [e]
    simpa using H.out
  · have h0I : (0 : Int) < (n : Int) := by omega
    have d0 : decide (0 < n) = true := by simp; omega
    have e : (8 - bt.length % 8) % 8 = 8 - n := by have := HLen.out; omega
    have e8 := Lib.hid (show (8 : Int) - (n : Int) = ((8 - n : Nat) : Int) by omega)
    have HE := Lib.hid e
    clear e
    go_enter Tryd.func20, Tryd.ntmps20
    go_wp2_with fail
    rw [e8.out]
    refine (put_any bt g own 0 (8 - n) w H.out (by omega) (by omega) hl).mono ?_
    rintro ev w2 ⟨rfl, own', hw, hst⟩
    rw [bitsL_zero] at hw
    have HW := Lib.hid hw
    have HS := Lib.hid hst
    clear hw hst
    go_wp2
    go_end0
    exact ⟨rfl, own', by rw [HE.out]; exact HW.out, HS.out⟩
end Go.Proofs.YtlhaehefhhcgaaaDoor
namespace Go.Proofs.YtlhaehefhhcgaaaDoor
open Go.RowKit
set_option linter.unusedVariables false

theorem WrOk.bit01 {w : World} {g : Nat} {own : Option Nat} {bt : List Int} (h : WrOk w g own bt) : Bit01 bt := by
  obtain ⟨_, _, _, _, _, _, _, _, _, _, h⟩ := h
  exact h
theorem WrOk.blk {w : World} {g : Nat} {own : Option Nat} {bt : List Int} (h : WrOk w g own bt) : ∃ cs, Blk w g 92 cs := by
  obtain ⟨_, _, _, _, ⟨h, _⟩, _⟩ := h
  exact ⟨_, h⟩
theorem ty_apart {w : World} {r : Nat} {t u : TypeId} {cs : Array Value} {base n size : Nat} {v : Value} {xs : List Value} (hb : Blk w r t cs) (h : w.ownsRow base u size v n xs) (hne : u ≠ t) : v.ownBlock = none ∨ v.ownBlock ≠ some r := by
  rcases h.2 with ⟨rfl, _⟩ | ⟨g', cap, cur, rfl, _, hg, _⟩
  · exact .inl rfl
  · refine .inr (fun he => ?_)
    simp only [Value.ownBlock, Option.some.injEq] at he
    subst he
    unfold Blk at hb
    rw [hg] at hb
    injection hb with hb
    injection hb with _ ht
    exact hne ht
/-- A row stays where a writer writes. -/
theorem WrStep.keeps {w w' : World} {g : Nat} {own own' : Option Nat} {bt : List Int} {base n size : Nat} {t : TypeId} {v : Value} {xs : List Value} (hst : WrStep w w' g own own') (hw : WrOk w g own bt) (h : w.ownsRow base t size v n xs) (h1 : t ≠ 92) (h2 : t ≠ 5) : w'.ownsRow base t size v n xs := by
  obtain ⟨v2, bs, rest, k, ⟨hb, ho, _⟩, hown, _⟩ := hw
  have a1 := ty_apart hb h h1
  have a2 := own_apart h ho h2
  rw [hown] at a2
  refine ⟨h.1, h.2.imp id ?_⟩
  rintro ⟨g', cap, cur, rfl, h1, h2, h3⟩
  refine ⟨g', cap, cur, rfl, h1, (hst.block g' (Blk.lt (t := t) (cs := cur) h2) ?_ ?_).trans h2, h3⟩
  · rintro rfl
    rcases a1 with a | a
    · simp [Value.ownBlock] at a
    · exact a rfl
  · intro e
    rcases a2 with a | a
    · simp [Value.ownBlock] at a
    · exact a e
/-- .. and a writer where another row turns. -/
theorem WrOk.grown {w w' : World} {g : Nat} {own : Option Nat} {bt : List Int} {base n size : Nat} {t : TypeId} {v : Value} {xs : List Value} (hw : WrOk w g own bt) (h : w.ownsRow base t size v n xs) (hg : w.grownBy w' v.ownBlock) (h1 : t ≠ 92) (h2 : t ≠ 5) : WrOk w' g own bt := by
  obtain ⟨v2, bs, rest, k, ⟨hb, ho, hB⟩, h4⟩ := hw
  refine ⟨v2, bs, rest, k, ⟨hb.grown hg (fun e => ?_), ho.kept hg (own_apart ho h (fun e => h2 e.symm)), hB⟩, h4⟩
  rcases ty_apart hb h h1 with a | a
  · rw [a] at e; cases e
  · exact a e.symm
/-- A code: its lengths and its codes, each a row. -/
def CodeOk (w : World) (zs : List Int) (A A2 : Option Addr) (n c c2 : Nat) : Prop :=
  w.ownsRow 0 3 1 (.slice A n c) n (zs.map (Value.int .i64)) ∧ w.ownsRow 0 3 1 (.slice A2 n c2) n ((codesOf zs).map (Value.int .i64))
theorem CodeOk.step {w w' : World} {g : Nat} {own own' : Option Nat} {bt zs : List Int} {A A2 : Option Addr} {n c c2 : Nat} (h : CodeOk w zs A A2 n c c2) (hw : WrOk w g own bt) (hst : WrStep w w' g own own') : CodeOk w' zs A A2 n c c2 :=
  ⟨hst.keeps hw h.1 (by decide) (by decide), hst.keeps hw h.2 (by decide) (by decide)⟩
theorem CodeOk.below {w w' : World} {zs : List Int} {A A2 : Option Addr} {n c c2 : Nat} (h : CodeOk w zs A A2 n c c2) (hb : Below w.heap.size w w') : CodeOk w' zs A A2 n c c2 := ⟨own_below h.1 hb, own_below h.2 hb⟩
theorem CodeOk.len {w : World} {zs : List Int} {A A2 : Option Addr} {n c c2 : Nat} (h : CodeOk w zs A A2 n c c2) : zs.length = n := by simpa using h.1.1
/-- A block stays where a writer writes. -/
theorem WrStep.blk {w w' : World} {g k : Nat} {own own' : Option Nat} {bt : List Int} {t : TypeId} {cs : Array Value} (hst : WrStep w w' g own own') (hw : WrOk w g own bt) (h : Blk w k t cs) (h1 : t ≠ 92) (h2 : t ≠ 5) : Blk w' k t cs := by
  obtain ⟨v2, bs, rest, n, ⟨hb, ho, _⟩, hown, _⟩ := hw
  refine (hst.block k h.lt ?_ ?_).trans h
  · rintro rfl
    unfold Blk at hb h
    rw [h] at hb
    injection hb with e
    injection e with _ e
    exact h1 e
  · intro e
    rcases ty_apart h ho (fun e => h2 e.symm) with a | a
    · rw [hown] at a; rw [a] at e; cases e
    · rw [hown] at a; exact a e.symm
theorem code_nat {zs : List Int} (hok : countsOk zs = true) {s : Nat} (hs : s < zs.length) : ∃ c z : Nat, codeAt zs s = (c : Int) ∧ zs.getD s 0 = (z : Int) ∧ z ≤ 15 ∧ c < 32768 ∧ litB zs s = codeBits c z := by
  have h15 := okLen_of hok hs
  obtain ⟨z, hz⟩ : ∃ z : Nat, zs.getD s 0 = (z : Int) := ⟨(zs.getD s 0).toNat, by omega⟩
  by_cases h0 : 0 < z
  · obtain ⟨h1, h2⟩ := code_lt hok hs h0 (by omega) hz
    have h3 : (2 : Int) ^ z ≤ 2 ^ 15 := by
      have := Nat.pow_le_pow_right (n := 2) (by omega) (show z ≤ 15 by omega)
      exact_mod_cast this
    exact ⟨(codeAt zs s).toNat, z, by omega, hz, by omega, by omega, by unfold litB; rw [hz]; rfl⟩
  · have hz0 : z = 0 := by omega
    subst hz0
    refine ⟨0, 0, ?_, hz, by omega, by omega, by unfold litB; rw [hz]; rfl⟩
    unfold codeAt
    rw [if_neg (by rw [hz]; simp)]
    rfl
theorem codes_get {zs : List Int} {i : Nat} (h : i < zs.length) : (codesOf zs).getD i 0 = codeAt zs i := by simp [codesOf, h]

theorem ints_get {zs : List Int} {i : Nat} (h : i < zs.length) : (zs.map (Value.int .i64))[i]? = some (.int .i64 (zs.getD i 0)) := by
  rw [List.getElem?_map, List.getElem?_eq_getElem h]
  simp [h]
def DPutPost (bt : List Int) (g : Nat) (own : Option Nat) (X : List Int) (w : World) (e : Ending) (w' : World) : Prop :=
  e = .returned (.tuple #[]) ∧ ∃ own', WrOk w' g own' (bt ++ X) ∧ WrStep w w' g own own'
def DputI (bt : List Int) (g : Nat) (own : Option Nat) (c n : Nat) (w : World) (iv : Value) (wr : World) : Prop :=
  ∃ (k : Nat) (b1 : List Int) (own' : Option Nat), k ≤ n ∧ iv = .int .i64 ((k : Int) - 1) ∧ b1 ++ codeBits c k = bt ++ codeBits c n ∧ WrOk wr g own' b1 ∧ WrStep w wr g own own'

end Go.Proofs.YtlhaehefhhcgaaaDoor
namespace Go.Proofs.YtlhaehefhhcgaaaDoor
open Go.RowKit
set_option linter.unusedVariables false

def pcell (p : Pc) : List Value := [.int .u8 (p.b : Int), .int .i64 (p.n : Int), .int .i64 (p.d : Int)]
theorem pcells_len (l : List Pc) : (l.flatMap pcell).length = l.length * 3 := by
  induction l with
  | nil => rfl
  | cons p l ih => simp [pcell] at ih ⊢; omega
theorem pcells_get : ∀ (l : List Pc) (i : Nat) (p : Pc), l[i]? = some p → (l.flatMap pcell)[i * 3]? = some (.int .u8 (p.b : Int)) ∧ (l.flatMap pcell)[i * 3 + 1]? = some (.int .i64 (p.n : Int)) ∧ (l.flatMap pcell)[i * 3 + 2]? = some (.int .i64 (p.d : Int))
  | [], i, p, h => by simp at h
  | q :: l, 0, p, h => by
    obtain rfl : q = p := by simpa using h
    exact ⟨rfl, rfl, rfl⟩
  | q :: l, i + 1, p, h => by
    have ih := pcells_get l i p (by simpa using h)
    rw [show (i + 1) * 3 = i * 3 + 3 by omega]
    exact ih
/-- A row of pieces. -/
def PcRow (w : World) (A : Option Addr) (n c : Nat) (l : List Pc) : Prop := w.ownsRow 0 94 3 (.slice A n c) n (l.flatMap pcell)
theorem PcRow.len {w : World} {A : Option Addr} {n c : Nat} {l : List Pc} (h : PcRow w A n c l) : l.length = n := by
  have h1 := h.1
  rw [pcells_len] at h1
  omega
theorem PcRow.below {w w' : World} {A : Option Addr} {n c : Nat} {l : List Pc} (h : PcRow w A n c l) (hb : Below w.heap.size w w') : PcRow w' A n c l := own_below h hb
theorem PcRow.step {w w' : World} {g : Nat} {own own' : Option Nat} {bt : List Int} {A : Option Addr} {n c : Nat} {l : List Pc} (h : PcRow w A n c l) (hw : WrOk w g own bt) (hst : WrStep w w' g own own') : PcRow w' A n c l := hst.keeps hw h (by decide) (by decide)
theorem PcRow.at_ {w : World} {A : Option Addr} {n c : Nat} {l : List Pc} (h : PcRow w A n c l) {i : Nat} (hi : i < n) :
    ∃ gp p, A = some ⟨gp, 0, none⟩ ∧ gp < w.heap.size ∧ l[i]? = some p ∧ w.cell? ⟨gp, i * 3, none⟩ = some (.int .u8 (p.b : Int)) ∧ w.cell? ⟨gp, i * 3 + 1, none⟩ = some (.int .i64 (p.n : Int)) ∧ w.cell? ⟨gp, i * 3 + 2, none⟩ = some (.int .i64 (p.d : Int)) := by
  have hl := h.len
  obtain ⟨gp, cap, hv, _, hlt⟩ := World.ownsRow.form h (by omega)
  injection hv with hA _ hc
  subst hA hc
  have hp : l[i]? = some l[i] := List.getElem?_eq_getElem (by omega)
  obtain ⟨q1, q2, q3⟩ := pcells_get l i _ hp
  have k := World.ownsRow.cells h (g := gp) rfl
  refine ⟨gp, _, rfl, hlt, hp, ?_, ?_, ?_⟩
  · have := k _ _ q1; rwa [Addr.add_mid, Nat.zero_add] at this
  · have := k _ _ q2; rwa [Addr.add_mid, Nat.zero_add] at this
  · have := k _ _ q3; rwa [Addr.add_mid, Nat.zero_add] at this
/-- A piece that can be written. -/
def Fine (p : Pc) : Prop := (p.n = 0 ∧ p.b < 256) ∨ (3 ≤ p.n ∧ p.n ≤ 258 ∧ 1 ≤ p.d ∧ p.d ≤ 32768)
theorem fine_of : ∀ (l : List Pc) (out : List Int), OkAll out l → ∀ p ∈ l, Fine p
  | [], _, _, p, hp => by cases hp
  | q :: l, out, h, p, hp => by
    rcases List.mem_cons.1 hp with rfl | hp
    · rcases h.1 with ⟨a, b, c⟩ | ⟨a, b, c, d, e, f⟩
      · exact .inl ⟨a, c⟩
      · exact .inr ⟨b, c, d, e⟩
    · exact fine_of l _ h.2 p hp
theorem litB_le {zs : List Int} (hok : countsOk zs = true) {s : Nat} (hs : s < zs.length) : (litB zs s).length ≤ 15 := by
  have := okLen_of hok hs
  unfold litB
  rw [codeBits_len]
  omega
theorem lbits_bd : ∀ k, k < 29 → (lbits.getD k 0).toNat ≤ 5 := by decide
theorem dbits_bd : ∀ k, k < 30 → (dbits.getD k 0).toNat ≤ 13 := by decide
theorem pcB_le {zs ds : List Int} (hz : countsOk zs = true) (hd : countsOk ds = true) (lz : 286 ≤ zs.length) (ld : 30 ≤ ds.length) {p : Pc} (hf : Fine p) : (pcB zs ds p).length ≤ 100 := by
  have k1 := lenK_le p.n
  have k2 := distK_le p.d
  unfold pcB
  split
  · have := litB_le hz (s := p.b) (by rcases hf with h | h <;> omega)
    omega
  · have h1 := litB_le hz (s := 257 + lenK p.n) (by omega)
    have h2 := litB_le hd (s := distK p.d) (by omega)
    have h3 := lbits_bd (lenK p.n) (by omega)
    have h4 := dbits_bd (distK p.d) (by omega)
    simp only [List.length_append, bitsL_len]
    omega
theorem pcsB_le {zs ds : List Int} (hz : countsOk zs = true) (hd : countsOk ds = true) (lz : 286 ≤ zs.length) (ld : 30 ≤ ds.length) : ∀ (l : List Pc), (∀ p ∈ l, Fine p) → (l.flatMap (pcB zs ds)).length ≤ 100 * l.length
  | [], _ => Nat.le_refl _
  | p :: l, h => by
    have h1 := pcB_le hz hd lz ld (h p List.mem_cons_self)
    have h2 := pcsB_le hz hd lz ld l (fun q hq => h q (List.mem_cons_of_mem _ hq))
    rw [List.flatMap_cons, List.length_append, List.length_cons]
    omega
/-- Where a writer's row lies. -/
def Lo (B : Nat) (own : Option Nat) : Prop := ∀ j, own = some j → B ≤ j
theorem WrStep.lo {w w' : World} {g B : Nat} {own own' : Option Nat} (h : WrStep w w' g own own') (ho : Lo B own) (hB : B ≤ w.heap.size) : Lo B own' := by
  intro j hj
  rcases h.own with e | ⟨i, e, hi⟩
  · rw [e] at hj; exact ho j hj
  · rw [e] at hj; injection hj with hj; omega
theorem take_getq {α : Type} {l : List α} {i : Nat} {p : α} (h : l[i]? = some p) : l.take (i + 1) = l.take i ++ [p] := by rw [List.take_add_one, h]; rfl
def PcsI (bt : List Int) (g : Nat) (own : Option Nat) (zs ds : List Int) (l : List Pc) (w : World) (k : Nat) (iv : Value) (wr : World) : Prop :=
  ∃ (i : Nat) (own' : Option Nat), iv = .int .i64 (i : Int) ∧ i + k = l.length ∧ WrOk wr g own' (bt ++ (l.take i).flatMap (pcB zs ds)) ∧ WrStep w wr g own own'
end Go.Proofs.YtlhaehefhhcgaaaDoor
namespace Go.Proofs.YtlhaehefhhcgaaaDoor
open Go.RowKit
set_option linter.unusedVariables false

def OfPost (zs : List Int) (n : Nat) (w : World) (ev : Ending) (w' : World) : Prop :=
  ∃ A1 c1 A2 c2, ev = .returned (.agg #[.slice A1 n c1, .slice A2 n c2]) ∧ n ≤ c1 ∧ w'.ownsRow w.heap.size 3 1 (.slice A1 n c1) n (zs.map (Value.int .i64)) ∧ w'.ownsRow w.heap.size 3 1 (.slice A2 n c2) n ((codesOf zs).map (Value.int .i64)) ∧ Below w.heap.size w w'
theorem ownbase {w : World} {b b' : Nat} {t : TypeId} {size n : Nat} {v : Value} {xs : List Value} (h : w.ownsRow b t size v n xs) (hb : b' ≤ b) : w.ownsRow b' t size v n xs :=
  ⟨h.1, h.2.imp id fun ⟨g, cap, cur, e, a, r⟩ => ⟨g, cap, cur, e, Nat.le_trans hb a, r⟩⟩
end Go.Proofs.YtlhaehefhhcgaaaDoor
