/-
  inflate's stream: what lies in memory, what its small methods do.
-/
import Derived.Test.YtlhaehefhhcgaaaDoorInfSpec
import Derived.Test.YtlhaehefhhcgaaaDoorPairs
import Derived.Test.YtlhaehefhhcgaaaDoorBitsPlain
namespace Go.Proofs.YtlhaehefhhcgaaaDoor
open Go.RowKit
set_option linter.unusedVariables false

/-- What a stream's methods may turn: its own block, its reader's, rows of bytes from 'base' on. -/
structure StStep (w w' : World) (base s r : Nat) : Prop where
  os : w'.os = w.os
  tape : w'.tape = w.tape
  output : w'.output = w.output
  size : w.heap.size ≤ w'.heap.size
  low : ∀ k, k < base → k ≠ s → k ≠ r → w'.heap[k]? = w.heap[k]?
  typ : ∀ k, k < w.heap.size → (∀ cs f, w.heap[k]? ≠ some (.cells cs 5 f)) → k ≠ s → k ≠ r → w'.heap[k]? = w.heap[k]?
theorem StStep.refl (w : World) (base s r : Nat) : StStep w w base s r := ⟨rfl, rfl, rfl, Nat.le_refl _, fun _ _ _ _ => rfl, fun _ _ _ _ _ => rfl⟩
theorem StStep.trans {w w1 w2 : World} {base s r : Nat} (h : StStep w w1 base s r) (k : StStep w1 w2 base s r) : StStep w w2 base s r := by
  refine ⟨k.os.trans h.os, k.tape.trans h.tape, k.output.trans h.output, Nat.le_trans h.size k.size, fun j hj h1 h2 => (k.low j hj h1 h2).trans (h.low j hj h1 h2), fun j hj ht h1 h2 => ?_⟩
  have e := h.typ j hj ht h1 h2
  exact (k.typ j (Nat.lt_of_lt_of_le hj h.size) (by rw [e]; exact ht) h1 h2).trans e
theorem StStep.of_below {w w' : World} {base s r : Nat} (h : Below w.heap.size w w') (hb : base ≤ w.heap.size) : StStep w w' base s r :=
  ⟨h.os, h.tape, h.output, h.size, fun k hk _ _ => h.block k (by omega), fun k hk _ _ _ => h.block k hk⟩
theorem StStep.of_s {w w' : World} {base s r : Nat} (h : w.grownBy w' (some s)) (hb : base ≤ w.heap.size) : StStep w w' base s r :=
  ⟨h.os, h.tape, h.output, h.size, fun k hk h1 _ => h.block k (by omega) (fun e => h1 (by injection e)), fun k hk _ h1 _ => h.block k hk (fun e => h1 (by injection e))⟩
theorem StStep.of_r {w w' : World} {base s r : Nat} (h : w.grownBy w' (some r)) (hb : base ≤ w.heap.size) : StStep w w' base s r :=
  ⟨h.os, h.tape, h.output, h.size, fun k hk _ h1 => h.block k (by omega) (fun e => h1 (by injection e)), fun k hk _ _ h1 => h.block k hk (fun e => h1 (by injection e))⟩
theorem StStep.of_own {w w' : World} {base s r n : Nat} {v : Value} {xs : List Value} (h : w.grownBy w' v.ownBlock) (ho : w.ownsRow 0 5 1 v n xs) (hlo : ∀ j, v.ownBlock = some j → base ≤ j) (hb : base ≤ w.heap.size) : StStep w w' base s r := by
  refine ⟨h.os, h.tape, h.output, h.size, fun k hk _ _ => h.block k (by omega) (fun e => ?_), fun k hk ht _ _ => h.block k hk (fun e => ?_)⟩
  · have := hlo k e.symm; omega
  · rcases ho.2 with ⟨rfl, _⟩ | ⟨g, cap, cur, rfl, _, hg, _⟩
    · cases e
    · simp only [Value.ownBlock] at e
      injection e with e
      subst e
      exact ht _ _ hg
theorem StStep.blk {w w' : World} {base s r k : Nat} {t : TypeId} {cs c1 c2 : Array Value} (h : StStep w w' base s r) (hs : Blk w s 57 c1) (hr : Blk w r 103 c2) (hk : Blk w k t cs) (h1 : t ≠ 5) (h2 : t ≠ 57) (h3 : t ≠ 103) : Blk w' k t cs := by
  refine (h.typ k hk.lt (fun cs' f e => ?_) ?_ ?_).trans hk
  · unfold Blk at hk
    rw [hk] at e
    injection e with e
    injection e with _ e
    exact h1 e
  · rintro rfl
    unfold Blk at hk hs
    rw [hk] at hs
    injection hs with e
    injection e with _ e
    exact h2 e
  · rintro rfl
    unfold Blk at hk hr
    rw [hk] at hr
    injection hr with e
    injection e with _ e
    exact h3 e
theorem StStep.row {w w' : World} {base s r b n : Nat} {t : TypeId} {c1 c2 : Array Value} {v : Value} {xs : List Value} (h : StStep w w' base s r) (hs : Blk w s 57 c1) (hr : Blk w r 103 c2) (hk : w.ownsRow b t 1 v n xs) (h1 : t ≠ 5) (h2 : t ≠ 57) (h3 : t ≠ 103) : w'.ownsRow b t 1 v n xs := by
  refine ⟨hk.1, hk.2.imp id ?_⟩
  rintro ⟨g', cap, cur, rfl, a1, a2, a3⟩
  exact ⟨g', cap, cur, rfl, a1, h.blk hs hr (t := t) (cs := cur) a2 h1 h2 h3, a3⟩
theorem StStep.dec {w w' : World} {base s r g : Nat} {c1 c2 : Array Value} {zs : List Int} (h : StStep w w' base s r) (hs : Blk w s 57 c1) (hr : Blk w r 103 c2) (hd : DecOk w g zs) : DecOk w' g zs := by
  obtain ⟨vs, h1, h2⟩ := hd
  exact ⟨vs, h.blk hs hr h1 (by decide) (by decide) (by decide), fun l hl1 hl2 => h.row hs hr (h2 l hl1 hl2) (by decide) (by decide) (by decide)⟩

/-- A stream in block s, its reader in block r: bytes bs, at bit p; the text so far; the error that was met. -/
def StrOk (w : World) (base s r : Nat) (bs : List Int) (p : Nat) (out : List Int) (most e : Int) : Prop :=
  RdrOk w r bs p ∧ p ≤ 8 * bs.length ∧ r < base ∧ s < base ∧ base ≤ w.heap.size ∧ Bytes out ∧
  ∃ v, Blk w s 57 #[.pointer (some ⟨r, 0, none⟩), v, .int .i64 most, .int .i64 e] ∧ w.ownsRow 0 5 1 v out.length (out.map (Value.int .u8)) ∧ (∀ j, v.ownBlock = some j → base ≤ j)
theorem StrOk.sblk {w : World} {base s r p : Nat} {bs out : List Int} {most e : Int} (h : StrOk w base s r bs p out most e) : ∃ cs, Blk w s 57 cs := by
  obtain ⟨_, _, _, _, _, _, v, h, _⟩ := h
  exact ⟨_, h⟩
theorem StrOk.dec {w w' : World} {base s r p g : Nat} {bs out zs : List Int} {most e : Int} (h : StrOk w base s r bs p out most e) (hst : StStep w w' base s r) (hd : DecOk w g zs) : DecOk w' g zs := by
  obtain ⟨c1, h1⟩ := h.sblk
  obtain ⟨c2, h2⟩ := h.1.blk
  exact hst.dec h1 h2 hd
theorem st_apart {w : World} {r : Nat} {cs : Array Value} {base n : Nat} {v : Value} {xs : List Value} {t : TypeId} (hb : Blk w r t cs) (h : w.ownsRow base 5 1 v n xs) (ht : t ≠ 5) : v.ownBlock = none ∨ v.ownBlock ≠ some r := by
  rcases h.2 with ⟨rfl, _⟩ | ⟨g', cap, cur, rfl, _, hg, _⟩
  · exact .inl rfl
  · refine .inr (fun he => ?_)
    simp only [Value.ownBlock, Option.some.injEq] at he
    subst he
    unfold Blk at hb
    rw [hg] at hb
    injection hb with hb
    injection hb with _ e
    exact ht e.symm
theorem blk_ne {w : World} {a b : Nat} {t u : TypeId} {cs cs' : Array Value} (h : Blk w a t cs) (k : Blk w b u cs') (hn : t ≠ u) : a ≠ b := by
  rintro rfl
  unfold Blk at h k
  rw [h] at k
  injection k with k
  injection k with _ k
  exact hn k
theorem StrOk.below {w w' : World} {base s r p : Nat} {bs out : List Int} {most e : Int} (h : StrOk w base s r bs p out most e) (hb : Below w.heap.size w w') : StrOk w' base s r bs p out most e := by
  obtain ⟨h1, h2, h3, h4, h5, h6, v, h7, h8, h9⟩ := h
  exact ⟨h1.below hb, h2, h3, h4, Nat.le_trans h5 hb.size, h6, v, h7.below hb h7.lt, own_below h8 hb, h9⟩
/-- Its reader has read. -/
theorem StrOk.read {w w' : World} {base s r p q : Nat} {bs out : List Int} {most e : Int} (h : StrOk w base s r bs p out most e) (hr : RdrOk w' r bs q) (hq : q ≤ 8 * bs.length) (hg : w.grownBy w' (some r)) : StrOk w' base s r bs q out most e := by
  obtain ⟨h1, h2, h3, h4, h5, h6, v, h7, h8, h9⟩ := h
  obtain ⟨c2, hb⟩ := h1.blk
  refine ⟨hr, hq, h3, h4, Nat.le_trans h5 hg.size, h6, v, h7.grown hg (fun e => ?_), h8.kept hg (st_apart hb h8 (by decide)), h9⟩
  injection e with e
  exact blk_ne h7 hb (by decide) e
theorem RdrOk.keep {w w' : World} {r p : Nat} {bs : List Int} (h : RdrOk w r bs p) (hr : w'.heap[r]? = w.heap[r]?) (hs : w.heap.size ≤ w'.heap.size) (hd : ∀ b, b < r → (∃ o z, w.cell? ⟨b, o, none⟩ = some (.int .u8 z)) → w'.heap[b]? = w.heap[b]?) : RdrOk w' r bs p := by
  obtain ⟨A, c, h1, h2, h3⟩ := h
  refine ⟨A, c, hr.trans h1, ⟨h2.1, fun hn => ?_⟩, h3⟩
  obtain ⟨b, off, e, hlt, hc⟩ := h2.2 hn
  obtain ⟨b', off', e', hbr⟩ := h3 hn
  rw [e] at e'
  injection e' with e'
  injection e' with e1 e2
  subst e1
  have hk := hd b hbr ⟨_, _, hc 0 hn⟩
  exact ⟨b, off, e, Nat.lt_of_lt_of_le hlt hs, fun j hj => (World.cell?_of_block (a := ⟨b, off + j, none⟩) hk).trans (hc j hj)⟩
theorem str_no8 {w : World} {s : Nat} {t : TypeId} {q : Option Addr} {A : Option Addr} {n c : Nat} {x y : Int} (h : Blk w s t #[.pointer q, .slice A n c, .int .i64 x, .int .i64 y]) (o : Nat) (z : Int) : w.cell? ⟨s, o, none⟩ ≠ some (.int .u8 z) := by
  rw [h.cellq]
  rcases o with _ | _ | _ | _ | m <;> simp
/-- What it holds is turned. -/
theorem StrOk.turn {w w' : World} {base s r p : Nat} {bs out out' : List Int} {most e e' : Int} {v' : Value} (h : StrOk w base s r bs p out most e) (hg : w.grownBy w' (some s)) (hb : Blk w' s 57 #[.pointer (some ⟨r, 0, none⟩), v', .int .i64 most, .int .i64 e'])
    (ho : w.ownsRow 0 5 1 v' out'.length (out'.map (Value.int .u8))) (hlo : ∀ j, v'.ownBlock = some j → base ≤ j) (hB : Bytes out') : StrOk w' base s r bs p out' most e' := by
  obtain ⟨h1, h2, h3, h4, h5, h6, v, h7, h8, h9⟩ := h
  obtain ⟨A, c, rfl, _⟩ := own_slice h8
  obtain ⟨c2, hrb⟩ := h1.blk
  refine ⟨h1.keep (hg.block r hrb.lt (fun e => ?_)) hg.size (fun b hb ⟨o, z, hc⟩ => hg.block b (by omega) (fun e => ?_)), h2, h3, h4, Nat.le_trans h5 hg.size, hB, v', hb, ho.kept hg (st_apart h7 ho (by decide)), hlo⟩
  · injection e with e
    exact blk_ne hrb h7 (by decide) e
  · injection e with e
    subst e
    exact str_no8 h7 o z hc
/-- Its row has grown, and is not yet laid down. -/
theorem StrOk.grow {w w' : World} {base s r p : Nat} {bs out : List Int} {most e : Int} {v : Value} (h : StrOk w base s r bs p out most e) (hb : Blk w s 57 #[.pointer (some ⟨r, 0, none⟩), v, .int .i64 most, .int .i64 e]) (hg : w.grownBy w' v.ownBlock) :
    RdrOk w' r bs p ∧ Blk w' s 57 #[.pointer (some ⟨r, 0, none⟩), v, .int .i64 most, .int .i64 e] ∧ StStep w w' base s r := by
  obtain ⟨h1, h2, h3, h4, h5, h6, v2, h7, h8, h9⟩ := h
  have e : v2 = v := by
    have a := h7.cell (i := 1) rfl
    rw [hb.cell (i := 1) rfl] at a
    injection a with a
    exact a.symm
  subst e
  obtain ⟨c2, hrb⟩ := h1.blk
  have hlo : ∀ b, b < base → some b ≠ v2.ownBlock := fun b hb e => by have := h9 b e.symm; omega
  exact ⟨h1.keep (hg.block r hrb.lt (hlo r h3)) hg.size (fun b hb _ => hg.block b (by omega) (hlo b (by omega))), hb.grown hg (hlo s h4), StStep.of_own hg h8 h9 h5⟩

theorem StrOk.cell1 {w w' : World} {base s r p : Nat} {bs out : List Int} {most e : Int} (h : StrOk w base s r bs p out most e) (hg : w.grownBy w' (some r)) : w'.cell? ⟨s, 1, none⟩ = w.cell? ⟨s, 1, none⟩ := by
  obtain ⟨h1, _, _, _, _, _, v, h7, _⟩ := h
  obtain ⟨c2, hb⟩ := h1.blk
  exact World.cell?_of_block (a := ⟨s, 1, none⟩) (hg.block s h7.lt (fun e => by injection e with e; exact blk_ne h7 hb (by decide) e))
def FailPost (base s r : Nat) (bs : List Int) (p : Nat) (out : List Int) (most e x : Int) (w : World) (ev : Ending) (w' : World) : Prop :=
  ev = .returned (.tuple #[]) ∧ StrOk w' base s r bs p out most (if e = 0 then x else e) ∧ StStep w w' base s r ∧ w'.cell? ⟨s, 1, none⟩ = w.cell? ⟨s, 1, none⟩
set_option maxHeartbeats 800000 in
theorem fail_any (base s r : Nat) (bs : List Int) (p : Nat) (out : List Int) (most e x : Int) (w : World) (h : StrOk w base s r bs p out most e) :
    Calls Tryd.prog 32 #[.pointer (some ⟨s, 0, none⟩), .int .i64 x] w (FailPost base s r bs p out most e x w) := by
  have H := Lib.hid h
  obtain ⟨_, _, _, _, h5, h6, v, h7, h8, h9⟩ := h
  have HV := Lib.hid h7
  have c3 := h7.cell (i := 3) (v := .int .i64 e) rfl
  have f3 := h7.free 3
  have HO := Lib.hid h8
  have H9 := Lib.hid h9
  clear h7 h8 h9
  by_cases he : e = 0
  · subst he
    go_enter Tryd.func32, Tryd.ntmps32
    go_wp2
    go_end0
    have G := grown_put w ⟨s, 3, none⟩ (.int .i64 x)
    exact ⟨rfl, H.out.turn G (HV.out.put 3 _) HO.out H9.out h6, StStep.of_s G h5, ((HV.out.put 3 _).cell (i := 1) rfl).trans (HV.out.cell (i := 1) rfl).symm⟩
  · have d : (e == 0) = false := by simpa using he
    go_enter Tryd.func32, Tryd.ntmps32
    go_wp2
    go_end0
    exact ⟨rfl, by rw [if_neg he]; exact H.out, StStep.refl _ _ _ _, rfl⟩

/-- What one step has read: as said; or nothing, and the error is met. -/
def Took (e : Int) (T : Res Nat) (v p' : Nat) (e' : Int) : Prop := match T with
  | .ok a q => v = a ∧ p' = q ∧ e' = e
  | .bad b => v = 0 ∧ e' = if e = 0 then errOf b else e
/-- What an answer has to do with what is said. -/
def Agree (T : Res (List Int)) (out' : List Int) (p' : Nat) (e' : Int) : Prop := match T with
  | .ok a q => out' = a ∧ p' = q ∧ e' = 0
  | .bad b => e' = errOf b
def NumPost (base s r : Nat) (bs : List Int) (p : Nat) (out : List Int) (most e : Int) (n : Nat) (w : World) (ev : Ending) (w' : World) : Prop :=
  ∃ v p' e', ev = .returned (.int .i64 ((v : Nat) : Int)) ∧ v < 2 ^ n ∧ StrOk w' base s r bs p' out most e' ∧ StStep w w' base s r ∧ Took e (numR (bitsOf bs) p n) v p' e' ∧ w'.cell? ⟨s, 1, none⟩ = w.cell? ⟨s, 1, none⟩
set_option maxHeartbeats 800000 in
theorem number_any (base s r : Nat) (bs : List Int) (p : Nat) (out : List Int) (most e : Int) (n : Nat) (w : World) (h : StrOk w base s r bs p out most e) (hB : Bytes bs) (hl : bs.length ≤ 1000000000) (hn : n ≤ 32) :
    Calls Tryd.prog 27 #[.pointer (some ⟨s, 0, none⟩), .int .i64 (n : Int)] w (NumPost base s r bs p out most e n w) := by
  have H := Lib.hid h
  obtain ⟨h1, h2, _, _, h5, h6, v, h7, h8, h9⟩ := h
  have c0 := h7.cell (i := 0) (v := .pointer (some ⟨r, 0, none⟩)) rfl
  have HRd := Lib.hid h1
  have HBy := Lib.hid hB
  clear h1 h7 h8 h9 hB
  go_enter Tryd.func27, Tryd.ntmps27
  go_wp2_with fail
  refine (get_any bs r p n w HRd.out HBy.out hl h2 hn).mono ?_
  rintro ev w1 (⟨hlt, rfl, hr1, hg1⟩ | ⟨hle, rfl, hr1, hg1⟩)
  · have K1 := Lib.hid (H.out.cell1 hg1)
    have H1 := Lib.hid (H.out.read hr1 h2 hg1)
    have S1 := Lib.hid (StStep.of_r (s := s) hg1 h5)
    clear hr1 hg1 c0
    go_wp2_with (go_at_call 32; refine (fail_any base s r bs p out most e 4 w1 H1.out).mono ?_; rintro ev w2 ⟨rfl, h2', s2, k2⟩; have H2 := Lib.hid h2'; have K2 := Lib.hid (k2.trans K1.out); have S2 := Lib.hid (S1.out.trans s2); clear h2' s2 k2)
    go_ret
    refine ⟨0, p, _, rfl, Nat.two_pow_pos n, H2.out, S2.out, ?_⟩
    unfold numR
    rw [if_neg (by rw [bitsOf_len]; omega)]
    exact ⟨⟨rfl, rfl⟩, K2.out⟩
  · have K1 := Lib.hid (H.out.cell1 hg1)
    have H1 := Lib.hid (H.out.read hr1 hle hg1)
    have S1 := Lib.hid (StStep.of_r (s := s) hg1 h5)
    have hb : bitsAt bs p n < 2 ^ n := Nat.mod_lt _ (Nat.two_pow_pos n)
    have hb2 : 2 ^ n ≤ 2 ^ 32 := Nat.pow_le_pow_right (by omega) hn
    have HE := Lib.hid (bitsAt_num HBy.out p n)
    clear hr1 hg1 c0
    generalize bitsAt bs p n = x at *
    go_wp2
    go_ret
    refine ⟨x, p + n, e, rfl, hb, H1.out, S1.out, ?_⟩
    unfold numR
    rw [if_pos (by rw [bitsOf_len]; exact hle)]
    exact ⟨⟨HE.out, rfl, rfl⟩, K1.out⟩

def SymPost (base s r : Nat) (bs zs : List Int) (p : Nat) (out : List Int) (most e : Int) (w : World) (ev : Ending) (w' : World) : Prop :=
  ∃ v p' e', ev = .returned (.int .i64 ((v : Nat) : Int)) ∧ (v = 0 ∨ v < zs.length) ∧ StrOk w' base s r bs p' out most e' ∧ StStep w w' base s r ∧ Took e (symR (bitsOf bs) zs p) v p' e'
set_option maxHeartbeats 800000 in
theorem symbol_any (base s r g : Nat) (bs zs : List Int) (p : Nat) (out : List Int) (most e : Int) (w : World) (h : StrOk w base s r bs p out most e) (hd : DecOk w g zs) (hok : countsOk zs = true) (hB : Bytes bs) (hl : bs.length ≤ 1000000000) :
    Calls Tryd.prog 58 #[.pointer (some ⟨s, 0, none⟩), .pointer (some ⟨g, 0, none⟩)] w (SymPost base s r bs zs p out most e w) := by
  have H := Lib.hid h
  obtain ⟨h1, h2, _, _, h5, h6, v, h7, h8, h9⟩ := h
  have c0 := h7.cell (i := 0) (v := .pointer (some ⟨r, 0, none⟩)) rfl
  have HRd := Lib.hid h1
  have HBy := Lib.hid hB
  have HD := Lib.hid hd
  clear h1 h7 h8 h9 hB hd
  go_enter Tryd.func58, Tryd.ntmps58
  go_wp2_with fail
  refine (next_any zs bs r g p w HRd.out HD.out hok HBy.out hl h2).mono ?_
  rintro ev w1 ⟨rfl, hr1, hp1, _, hg1⟩
  have H1 := Lib.hid (H.out.read hr1 hp1 hg1)
  have S1 := Lib.hid (StStep.of_r (s := s) hg1 h5)
  have HS := Lib.hid (fun a q hh => symR_ok (bt := bitsOf bs) (zs := zs) (p := p) (a := a) (q := q) (by rw [bitsOf_len]; exact h2) hh)
  have HSd : Hid (symR (bitsOf bs) zs p = match nextOf zs ((bitsOf bs).drop p) with
    | (some s, k) => .ok s.toNat (p + k)
    | (none, _) => .bad false) := rfl
  have HNn : Hid (∀ x k, nextOf zs ((bitsOf bs).drop p) = (some x, k) → 0 ≤ x) := fun x k hh => by
    obtain ⟨_, _, h5, _⟩ := nextGo_ok _ _ _ _ hh
    rw [h5]; exact sym_nonneg _ _ _
  clear hr1 hg1 c0
  rcases hn : nextOf zs ((bitsOf bs).drop p) with ⟨_ | x, k⟩
  · rw [hn] at HSd H1 hp1
    simp only [Option.getD_none, Option.isSome_none] at H1 hp1 HSd ⊢
    go_wp2_with (go_at_call 32; refine (fail_any base s r bs (p + k) out most e 4 w1 H1.out).mono ?_; rintro ev w2 ⟨rfl, h2', s2, _⟩; have H2 := Lib.hid h2'; have S2 := Lib.hid (S1.out.trans s2); clear h2' s2)
    go_ret
    refine ⟨0, _, _, rfl, .inl rfl, H2.out, S2.out, ?_⟩
    rw [HSd.out]
    exact ⟨rfl, rfl⟩
  · have hx := HNn.out x k hn
    rw [hn] at HSd H1 hp1
    simp only [Option.getD_some, Option.isSome_some] at H1 hp1 HSd ⊢
    obtain ⟨xn, rfl⟩ : ∃ xn : Nat, x = xn := ⟨x.toNat, by omega⟩
    have hxl := (HS.out _ _ HSd.out).2.2
    rw [Int.toNat_natCast] at hxl HSd
    go_wp2
    go_ret
    refine ⟨xn, p + k, e, rfl, .inr hxl, H1.out, S1.out, ?_⟩
    rw [HSd.out]
    exact ⟨rfl, rfl, rfl⟩

def RoomPost (base s r : Nat) (bs : List Int) (p : Nat) (out : List Int) (most e : Int) (n : Nat) (w : World) (ev : Ending) (w' : World) : Prop :=
  ∃ e', ev = .returned (.bool (e' == 0)) ∧ StrOk w' base s r bs p out most e' ∧ StStep w w' base s r ∧ e' = if e = 0 ∧ most < out.length + n then 3 else e
set_option maxHeartbeats 800000 in
theorem room_any (base s r : Nat) (bs : List Int) (p : Nat) (out : List Int) (most e : Int) (n : Nat) (w : World) (h : StrOk w base s r bs p out most e) (hl : out.length ≤ 1000000000) (hn : n ≤ 1000000000) :
    Calls Tryd.prog 56 #[.pointer (some ⟨s, 0, none⟩), .int .i64 (n : Int)] w (RoomPost base s r bs p out most e n w) := by
  have H := Lib.hid h
  obtain ⟨_, _, _, _, h5, h6, v, h7, h8, h9⟩ := h
  obtain ⟨A, c, rfl, _⟩ := own_slice h8
  have HV := Lib.hid h7
  have c1 := h7.cell (i := 1) (v := .slice A out.length c) rfl
  have c2 := h7.cell (i := 2) (v := .int .i64 most) rfl
  have c3 := h7.cell (i := 3) (v := .int .i64 e) rfl
  have HO := Lib.hid h8
  have H9 := Lib.hid h9
  clear h7 h8 h9
  by_cases he : e = 0
  · subst he
    by_cases hm : most < out.length + n
    · have d : decide (most < (out.length : Int) + n) = true := by simpa using hm
      have HV1 := Lib.hid (HV.out.drew)
      have f3 := HV1.out.free 3
      have c3' := HV1.out.cell (i := 3) (v := .int .i64 0) rfl
      go_enter Tryd.func56, Tryd.ntmps56
      go_wp2
      refine wp_region_qs (fun _ w' => w'.cell? ⟨s, 1, none⟩ = some (.slice A out.length c) ∧ w'.cell? ⟨s, 2, none⟩ = some (.int .i64 most) ∧ w'.cell? ⟨s, 3, none⟩ = some (.int .i64 0)) [(0, some 0), (1, some 0), (2, some 0), (3, some 0), (4, some 0), (5, some 0), (6, some 0), (7, some 0), (8, some 0), (9, some 0), (10, some 0), (11, some 0), (12, some 0), (13, some 0), (14, some 0), (15, some 0), (16, some 0), (17, some 0), (18, some 0)] (by kernel_rfl) (by kernel_rfl) (by kernel_rfl) (by kernel_rfl) (by kernel_rfl) (fun _ _ _ _ _ h => h) ⟨c1, c2, c3⟩ ?_
      simp only [List.map_cons, List.map_nil, List.getD_cons_succ, List.getD_cons_zero]
      (repeat (first | (refine qs_now (v := ?_) (by rfl) ?_ ?_; rotate_left 1; (· (intro w' hS; go_simp; (try (simp only [↓IntWalk.iteOmega]; go_simp)); (try simp (disch := omega) only [IntWalk.i64_in]); try with_reducible rfl)); simp only [Act.put, List.setIfInBounds_toArray, List.set_cons_zero, List.set_cons_succ]) | (refine qs_run (v := ?_) (by rfl) ?_ ?_; rotate_left 1; (· (intro j w' hS; go_simp; (try (simp only [↓IntWalk.iteOmega]; go_simp)); (try simp (disch := omega) only [IntWalk.i64_in]); try with_reducible rfl)); simp only [Act.put, List.setIfInBounds_toArray, List.set_cons_zero, List.set_cons_succ]) | (refine qs_skip (by rfl) ?_; simp only [Act.put, List.setIfInBounds_toArray, List.set_cons_zero, List.set_cons_succ])))
      refine qs_nil ?_
      go_wp2
      go_ret
      have G := grown_put w.drew ⟨s, 3, none⟩ (.int .i64 3)
      have hd := (Below.refl w.heap.size w).drew
      exact ⟨3, rfl, (H.out.below hd).turn G (HV1.out.put 3 _) (own_below HO.out hd) H9.out h6, (StStep.of_below hd h5).trans (StStep.of_s G h5), by rw [if_pos ⟨rfl, hm⟩]⟩
    · have d : decide (most < (out.length : Int) + n) = false := by simpa using hm
      have c3' : w.drew.cell? ⟨s, 3, none⟩ = some (.int .i64 0) := c3
      go_enter Tryd.func56, Tryd.ntmps56
      go_wp2
      refine wp_region_qs (fun _ w' => w'.cell? ⟨s, 1, none⟩ = some (.slice A out.length c) ∧ w'.cell? ⟨s, 2, none⟩ = some (.int .i64 most) ∧ w'.cell? ⟨s, 3, none⟩ = some (.int .i64 0)) [(0, some 0), (1, some 0), (2, some 0), (3, some 0), (4, some 0), (5, some 0), (6, some 0), (7, some 0), (8, some 0), (9, some 0), (10, some 0), (11, some 0), (12, some 0), (13, some 0), (14, some 0), (15, some 0), (16, some 0), (17, some 0), (18, some 0)] (by kernel_rfl) (by kernel_rfl) (by kernel_rfl) (by kernel_rfl) (by kernel_rfl) (fun _ _ _ _ _ h => h) ⟨c1, c2, c3⟩ ?_
      simp only [List.map_cons, List.map_nil, List.getD_cons_succ, List.getD_cons_zero]
      (repeat (first | (refine qs_now (v := ?_) (by rfl) ?_ ?_; rotate_left 1; (· (intro w' hS; go_simp; (try (simp only [↓IntWalk.iteOmega]; go_simp)); (try simp (disch := omega) only [IntWalk.i64_in]); try with_reducible rfl)); simp only [Act.put, List.setIfInBounds_toArray, List.set_cons_zero, List.set_cons_succ]) | (refine qs_run (v := ?_) (by rfl) ?_ ?_; rotate_left 1; (· (intro j w' hS; go_simp; (try (simp only [↓IntWalk.iteOmega]; go_simp)); (try simp (disch := omega) only [IntWalk.i64_in]); try with_reducible rfl)); simp only [Act.put, List.setIfInBounds_toArray, List.set_cons_zero, List.set_cons_succ]) | (refine qs_skip (by rfl) ?_; simp only [Act.put, List.setIfInBounds_toArray, List.set_cons_zero, List.set_cons_succ])))
      refine qs_nil ?_
      go_wp2
      go_ret
      have hd := (Below.refl w.heap.size w).drew
      exact ⟨0, rfl, H.out.below hd, StStep.of_below hd h5, by rw [if_neg (fun h => by omega)]⟩
  · have d : (e == 0) = false := by simpa using he
    have c3' : w.drew.cell? ⟨s, 3, none⟩ = some (.int .i64 e) := c3
    go_enter Tryd.func56, Tryd.ntmps56
    go_wp2
    refine wp_region_qs (fun _ w' => w'.cell? ⟨s, 1, none⟩ = some (.slice A out.length c) ∧ w'.cell? ⟨s, 2, none⟩ = some (.int .i64 most) ∧ w'.cell? ⟨s, 3, none⟩ = some (.int .i64 e)) [(0, some 0), (1, some 0), (2, some 0), (3, some 0), (4, some 0), (5, some 0), (6, some 0), (7, some 0), (8, some 0), (9, some 0), (10, some 0), (11, some 0), (12, some 0), (13, some 0), (14, some 0), (15, some 0), (16, some 0), (17, some 0), (18, some 0)] (by kernel_rfl) (by kernel_rfl) (by kernel_rfl) (by kernel_rfl) (by kernel_rfl) (fun _ _ _ _ _ h => h) ⟨c1, c2, c3⟩ ?_
    simp only [List.map_cons, List.map_nil, List.getD_cons_succ, List.getD_cons_zero]
    (repeat (first | (refine qs_now (v := ?_) (by rfl) ?_ ?_; rotate_left 1; (· (intro w' hS; go_simp; (try (simp only [↓IntWalk.iteOmega]; go_simp)); (try simp (disch := omega) only [IntWalk.i64_in]); try with_reducible rfl)); simp only [Act.put, List.setIfInBounds_toArray, List.set_cons_zero, List.set_cons_succ]) | (refine qs_run (v := ?_) (by rfl) ?_ ?_; rotate_left 1; (· (intro j w' hS; go_simp; (try (simp only [↓IntWalk.iteOmega]; go_simp)); (try simp (disch := omega) only [IntWalk.i64_in]); try with_reducible rfl)); simp only [Act.put, List.setIfInBounds_toArray, List.set_cons_zero, List.set_cons_succ]) | (refine qs_skip (by rfl) ?_; simp only [Act.put, List.setIfInBounds_toArray, List.set_cons_zero, List.set_cons_succ])))
    refine qs_nil ?_
    go_wp2
    go_ret
    have hd := (Below.refl w.heap.size w).drew
    exact ⟨e, by rw [d]; rfl, H.out.below hd, StStep.of_below hd h5, by rw [if_neg (fun h => he h.1)]⟩

def AlignPost (r : Nat) (bs : List Int) (p : Nat) (w : World) (ev : Ending) (w' : World) : Prop := ev = .returned (.tuple #[]) ∧ RdrOk w' r bs (alignR p) ∧ w.grownBy w' (some r)
set_option maxHeartbeats 800000 in
theorem align_any (r : Nat) (bs : List Int) (p : Nat) (w : World) (h : RdrOk w r bs p) (hl : bs.length ≤ 1000000000) (hp : p ≤ 8 * bs.length) :
    Calls Tryd.prog 54 #[.pointer (some ⟨r, 0, none⟩)] w (AlignPost r bs p w) := by
  obtain ⟨A, c, hb, hr, hlo⟩ := h
  have HB := Lib.hid hb
  have HR := Lib.hid hr
  have HLo := Lib.hid hlo
  have c2 := hb.cell (i := 2) (v := .int .i64 p) rfl
  have f2 := hb.free 2
  have HA := Lib.hid (andNot7 (p + 7) (by omega))
  clear hb hr hlo
  go_enter Tryd.func54, Tryd.ntmps54
  go_wp2
  go_end0
  have e : ((p + 7 : Nat) : Int) = (p : Int) + 7 := by omega
  have h1 := HA.out
  rw [e] at h1
  rw [h1]
  exact ⟨rfl, ⟨A, c, HB.out.put 2 _, rd_else HR.out HB.out _ _, HLo.out⟩, grown_put _ _ _⟩
end Go.Proofs.YtlhaehefhhcgaaaDoor
