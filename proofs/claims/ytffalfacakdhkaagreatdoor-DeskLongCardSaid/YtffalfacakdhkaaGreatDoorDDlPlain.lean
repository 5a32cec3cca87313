/-
  what this claim needs of: DlPlain, DlTell, DlW, DlHex, DlNum, DlUn (written by cut.py).
-/
import Derived.Lib.Split
import Derived.Lib.ItoaNum
import Derived.Lib.AtoiAllCases
import Derived.Test.YtffalfacakdhkaaGreatDoorDShelf
import Derived.Test.YtffalfacakdhkaaGreatDoorDHuffSpec
import Derived.Lib.ItoaLen
import Derived.Laws.BytesArg
namespace Go.Proofs.YtffalfacakdhkaaGreatDoor
open Go.Lib
set_option linter.unusedVariables false

theorem u8_back (c : UInt8) : UInt8.ofNat c.toNat = c := UInt8.ofNat_toNat
def val (a : Nat) (l : List UInt8) : Nat := l.foldl (fun a c => 10 * a + (c.toNat - 48)) a
def i64b (v : Int) : Prop := -9223372036854775808 ≤ v ∧ v ≤ 9223372036854775807
/-- A number, as lines reads it. -/
def numL (s : List UInt8) : Option Int := match atoiAll s with
 | .ok v => if itoa v = s then some v else none
 | _ => none
def wordsL : List UInt8 → List (List UInt8)
 | [] => [[]]
 | c :: r => if c = 32 then [] :: wordsL r else match wordsL r with
  | [] => [[c]]
  | w :: ws => (c :: w) :: ws
def glue (p : List UInt8) : List (List UInt8) → List (List UInt8)
 | [] => [p]
 | w :: ws => (p ++ w) :: ws
theorem words_ne : ∀ s, wordsL s ≠ []
 | [] => by simp [wordsL]
 | c :: r => by
  unfold wordsL
  split
  ·simp
  ·split <;> simp
theorem glue_nil {l : List (List UInt8)} (h : l ≠ []) : glue [] l = l := by
 cases l with
 | nil => exact absurd rfl h
 | cons w ws => rfl
theorem words_space (r : List UInt8) : wordsL (32 :: r) = [] :: wordsL r := by rw [wordsL]; simp
theorem words_other {c : UInt8} {r : List UInt8} (h : c ≠ 32) : wordsL (c :: r) = glue [c] (wordsL r) := by
 rw [wordsL, if_neg h]
 cases wordsL r <;> rfl
theorem glue_glue (p q : List UInt8) (l : List (List UInt8)) : glue p (glue q l) = glue (p ++ q) l := by
 cases l with
 | nil => rfl
 | cons w ws => simp [glue]
theorem words_pre : ∀ (a r : List UInt8), 32 ∉ a → wordsL (a ++ r) = glue a (wordsL r)
 | [], r, _ => (glue_nil (words_ne r)).symm
 | c :: a, r, h => by
  simp only [List.mem_cons, not_or] at h
  rw [List.cons_append, words_other (fun e => h.1 e.symm), words_pre a r h.2, glue_glue]; rfl
theorem words_one {a : List UInt8} (h : 32 ∉ a) : wordsL a = [a] := by
 have := words_pre a [] h
 rw [List.append_nil] at this
 rw [this]
 simp [wordsL, glue]
theorem words_cut {a r : List UInt8} (h : 32 ∉ a) : wordsL (a ++ 32 :: r) = a :: wordsL r := by
 rw [words_pre a _ h, words_space]
 simp [glue]
theorem occ_one (s : List UInt8) (i : Nat) : occAt s [32] i = true ↔ s[i]? = some 32 := by
 unfold occAt
 cases h : s.drop i with
 | nil =>
  have : s.length ≤ i := List.drop_eq_nil_iff.1 h
  simp [List.isPrefixOf, List.getElem?_eq_none this]
 | cons c r =>
  have : s[i]? = some c := by
   have := congrArg List.head? h
   simpa [List.head?_drop] using this
  rw [this]
  simp [List.isPrefixOf]
  exact ⟨fun h => h.symm, fun h => h.symm⟩
theorem split_words : ∀ (n : Nat) (s : List UInt8), s.length ≤ n → splitK [32] 0 (count s [32]) s = wordsL s
 | n, s, hs => by
  rcases index_spec s [32] with ⟨h1, h2⟩ | ⟨i, h1, h2, h3, h4⟩
  ·rw [count_miss h1, splitK, words_one]
   intro hm
   obtain ⟨j, hj⟩ := List.getElem?_of_mem hm
   have hlt : j < s.length := by
    rcases Nat.lt_or_ge j s.length with h | h
    ·exact h
    ·rw [List.getElem?_eq_none h] at hj; cases hj
   have := h2 j (by omega)
   rw [(occ_one s j).2 hj] at this
   cases this
  ·have hi := (occ_one s i).1 h3
   have hlt : i < s.length := by
    rcases Nat.lt_or_ge i s.length with h | h
    ·exact h
    ·rw [List.getElem?_eq_none h] at hi; cases hi
   have e32 : s[i] = 32 := by rw [List.getElem?_eq_getElem hlt] at hi; injection hi
   rw [count_hit (by simp) h1, Nat.add_comm, splitK, if_neg (by rw [h1]; simp), h1]
   have es : s = s.take i ++ 32 :: s.drop (i + 1) := by
    conv => lhs; rw [← List.take_append_drop i s, List.drop_eq_getElem_cons hlt, e32]
   match n, hs with
   | 0, hs => omega
   | n + 1, hs =>
    have ih := split_words n (s.drop (i + 1)) (by rw [List.length_drop]; omega)
    rw [show ((i : Nat) : Int).toNat = i from Int.toNat_natCast i]
    show s.take (i + 0) :: splitK [32] 0 (count (s.drop (i + [32].length)) [32]) (s.drop (i + [32].length)) = wordsL s
    rw [show i + [(32 : UInt8)].length = i + 1 from rfl, ih, Nat.add_zero]
    conv => rhs; rw [es]
    rw [words_cut]
    intro hm
    obtain ⟨j, hj⟩ := List.getElem?_of_mem hm
    have hlj : j < i := by
     rcases Nat.lt_or_ge j i with h | h
     ·exact h
     ·rw [List.getElem?_eq_none (by rw [List.length_take]; omega)] at hj; cases hj
    rw [List.getElem?_take_of_lt hlj] at hj
    have := h4 j hlj
    rw [(occ_one s j).2 hj] at this
    cases this
end Go.Proofs.YtffalfacakdhkaaGreatDoor
namespace Go.Proofs.YtffalfacakdhkaaGreatDoor
open Go.Lib
set_option linter.unusedVariables false

def okW : List UInt8 := [111, 107]
def errW : List UInt8 := [101, 114, 114, 111, 114]
def snapW : List UInt8 := [115, 110, 97, 112]
def statW : List UInt8 := [115, 116, 97, 116]
def bytesW : List UInt8 := [98, 121, 116, 101, 115]
def digitsL : List UInt8 := [48, 49, 50, 51, 52, 53, 54, 55, 56, 57, 97, 98, 99, 100, 101, 102]
def rowL (w : List UInt8) (ns : List Int) : List UInt8 := w ++ ns.flatMap fun n => 32 :: itoa n
def hexD (n : Nat) : UInt8 := digitsL.getD n 0
def hexL (b : List Int) : List UInt8 := b.flatMap fun z => [hexD (z.toNat / 16), hexD (z.toNat % 16)]
def someL (nums snaps : List Int) : Bool := nums.any (fun n => n != 0) || !snaps.isEmpty
def statL (nums snaps : List Int) : List UInt8 := if someL nums snaps then rowL (32 :: statW) (nums ++ snaps) else []
def tellL (e sn : Int) (nums snaps b : List Int) : List UInt8 :=
 (if e = 0 then okW else rowL errW [e]) ++ (if sn = 0 then [] else rowL (32 :: snapW) [sn]) ++ statL nums snaps ++ (if b = [] then [] else 32 :: bytesW ++ 32 :: hexL b)
def By (b : List Int) : Prop := ∀ z ∈ b, 0 ≤ z ∧ z < 256
end Go.Proofs.YtffalfacakdhkaaGreatDoor
namespace Go.Proofs.YtffalfacakdhkaaGreatDoor
open Go.RowKit
set_option linter.unusedVariables false
set_option linter.unusedSimpArgs false

structure LnT (w : World) : Prop where
 tab : Lib.TabIs Tryz.prog w "internal/strconv.uint64pow10" .u64 Lib.pow10Tab
 syn : ∃ tp p, w.var? Tryz.prog "strconv.ErrSyntax" = some #[.iface tp p]
 rng : ∃ tp p, w.var? Tryz.prog "strconv.ErrRange" = some #[.iface tp p]
 mx : ∃ m, w.cell? ⟨3, 0, none⟩ = some (.int .i64 m)
theorem var_below {P : Program} {w w' : World} {n : String} {cs : Array Value} (h : w.var? P n = some cs) (hb : Below w.heap.size w w') : w'.var? P n = some cs := by
 unfold World.var? at *
 cases hg : P.globalNamed n with
 | none => rw [hg] at h; cases h
 | some g =>
  rw [hg] at h
  simp only [Option.bind_some] at h ⊢
  have hlt : g < w.heap.size := by
   rcases Nat.lt_or_ge g w.heap.size with h1 | h1
   ·exact h1
   ·rw [Array.getElem?_eq_none h1] at h; cases h
  rw [hb.block g hlt]
  exact h
theorem cell_low {w w' : World} {a : Addr} {v : Value} (h : w.cell? a = some v) (hb : Below w.heap.size w w') : w'.cell? a = some v :=
 (World.cell?_of_block (hb.block a.block (block_lt_of_cell h))).trans h
theorem LnT.below {w w' : World} (h : LnT w) (hb : Below w.heap.size w w') : LnT w' :=
 ⟨var_below h.tab hb, h.syn.imp fun _ q => q.imp fun _ q => var_below q hb, h.rng.imp fun _ q => q.imp fun _ q => var_below q hb, h.mx.imp fun _ q => cell_low q hb⟩
theorem below_growN (w : World) (k : Nat) (os : Array Obj) : Below w.heap.size w (Sort.grow (w.drewN k) os) := by
 refine ⟨rfl, rfl, rfl, ?_, fun j hj => ?_⟩
 ·show w.heap.size ≤ (w.heap ++ os).size
  rw [Array.size_append]; omega
 ·show (w.heap ++ os)[j]? = w.heap[j]?
  exact Array.getElem?_append_left hj
theorem itoa_any (n : Int) (hb : i64b n) (w : World) (ht : LnT w) : Calls Tryz.prog 12 #[.int .i64 n] w fun e w' => e = .returned (.string ⟨(Lib.itoa n).toArray⟩) ∧ Below w.heap.size w w' :=
 (Tryz.strconv_Itoa n hb.1 hb.2 w ht.tab).mono fun e w' ⟨he, k, os, hw⟩ => ⟨he, by rw [hw]; exact below_growN w k os⟩
theorem cat_list (a b : List UInt8) : (⟨a.toArray⟩ : ByteArray) ++ ⟨b.toArray⟩ = ⟨(a ++ b).toArray⟩ := by
 apply ByteArray.ext
 simp
theorem own_lo8 {w w' : World} {base : Nat} {e : TypeId} {size n : Nat} {v : Value} {xs : List Value} (h : w.ownsRow base e size v n xs) (hb : Below w.heap.size w w') : w'.ownsRow base e size v n xs :=
 h.kept (row := none) ⟨hb.os, hb.tape, hb.output, hb.size, fun k hk _ => hb.block k hk⟩ (by cases hh : v.ownBlock <;> simp)
def HeldW (p : Prop) : Prop := p
theorem heldW {p : Prop} (h : HeldW p) : p := h
theorem src_blk {w : World} {B : Nat} {t : TypeId} {cs : Array Value} {size m c : Nat} (h : Blk w B t cs) (hs : cs.size = m * size) : Src w size (.slice (some ⟨B, 0, none⟩) m c) m cs.toList :=
 ⟨_, c, rfl, by simpa using hs, fun _ => ⟨B, 0, rfl, h.lt, fun j y hy => by rw [Nat.zero_add, h.cellq]; simpa using hy⟩⟩
theorem str_nums (l : List UInt8) : strOfNums (l.map fun c => (c.toNat : Int)) = ⟨l.toArray⟩ := by
 unfold strOfNums
 have e : ((fun n : Int => UInt8.ofNat n.toNat) ∘ fun c : UInt8 => (c.toNat : Int)) = id := by
  funext c
  simp
 rw [List.map_map, e, List.map_id]
def u8s (l : List UInt8) : List Value := l.map fun c => Value.int .u8 (c.toNat : Int)
theorem u8s_ints (l : List UInt8) : u8s l = (l.map fun c => (c.toNat : Int)).map (Value.int .u8) := by simp [u8s]
/-- Bytes in memory, made a string. -/
theorem conv_own {w : World} {base n c : Nat} {A : Option Addr} {l : List UInt8} (h : w.ownsRow base 5 1 (.slice A n c) n (u8s l)) : (convert 25 9 (.slice A n c)).run Tryz.prog w = .ok (.string ⟨l.toArray⟩) w := by
 rw [u8s_ints] at h
 obtain ⟨hl, hr⟩ := RdI.of_own h
 rcases Nat.eq_zero_or_pos n with rfl | hn
 ·have : l = [] := List.eq_nil_of_length_eq_zero (by simpa using hl)
  subst this
  rcases h.2 with ⟨hv, _⟩ | ⟨g, cap, cur, hv, _⟩
  ·simp only [Value.slice.injEq] at hv
   obtain ⟨rfl, _⟩ := hv
   exact run_convert_bytes_nil w 25 5 Tryz.underlying25 Tryz.underlying5 0 c 9 Tryz.underlying9
  ·simp only [Value.slice.injEq] at hv
   obtain ⟨rfl, _⟩ := hv
   exact run_convert_bytes_arg (P := Tryz.prog) w 25 5 Tryz.underlying25 Tryz.underlying5 g 0 0 c [] rfl (fun i hi => by omega) 9 Tryz.underlying9
 ·obtain ⟨b, off, rfl, _, hc⟩ := hr hn
  rw [← str_nums]
  exact run_convert_bytes_arg (P := Tryz.prog) w 25 5 Tryz.underlying25 Tryz.underlying5 b off n c _ hl hc 9 Tryz.underlying9
theorem wp_meet {α : Type} {P : Program} {c d : Code} {Q : Exit → Act → World → Prop} {a : Act} {w : World} (F : Act → α → Act) (R : α → World → Prop) (h1 : c.wp P (fun e a' w' => e = .normal ∧ ∃ x, a' = F a x ∧ R x w') a w) (h2 : ∀ x w', R x w' → d.wp P Q (F a x) w') : (Code.seq c d).wp P Q a w := by
 refine wp_seq (wp_mono h1 ?_)
 rintro e a' w' ⟨rfl, x, rfl, hR⟩
 exact h2 x w' hR
theorem wp_meetK {α : Type} {P : Program} {c : Code} {K : Act → World → Prop} {Q : Exit → Act → World → Prop} {a : Act} {w : World} (F : Act → α → Act) (R : α → World → Prop) (h1 : c.wp P (fun e a' w' => e = .normal ∧ ∃ x, a' = F a x ∧ R x w') a w) (h2 : ∀ x w', R x w' → K (F a x) w') : c.wp P (Exit.then K Q) a w := by
 refine wp_mono h1 ?_
 rintro e a' w' ⟨rfl, x, rfl, hR⟩
 exact h2 x w' hR
theorem rd_new {w : World} {g n : Nat} {t : TypeId} (zs : List Int) {cs : Array Value} (h : Blk w g t cs) (hc : cs = (zs.map (Value.int .i64)).toArray) (hn : n = zs.length) : RdI .i64 w (some ⟨g, 0, none⟩) n zs := by
 subst hn
 refine ⟨rfl, fun h0 => ⟨_, 0, rfl, h.lt, fun j hj => ?_⟩⟩
 rw [Nat.zero_add]
 refine h.cell ?_
 subst hc
 simp [hj]
theorem cell_al {w : World} {a : Addr} {v : Value} (h : w.cell? a = some v) (o : Obj) : (w.alloc o).cell? a = some v := cell_low h ((Below.refl _ _).alloc (Nat.le_refl _) _)
theorem cell_al2 {w : World} {a : Addr} {v : Value} (h : w.cell? a = some v) (o o' : Obj) : ((w.alloc o).alloc o').cell? a = some v := cell_al (cell_al h o) o'
def RowI (word : List UInt8) (ns : List Int) (w : World) (k : Nat) (v iv : Value) (wr : World) : Prop :=
 ∃ i, iv = .int .i64 ((i : Nat) : Int) ∧ i + k = ns.length ∧ v = .string ⟨(rowL word (ns.take i)).toArray⟩ ∧ Below w.heap.size w wr
theorem rowL_next {word : List UInt8} {ns : List Int} {i : Nat} (h : i < ns.length) : rowL word (ns.take (i + 1)) = rowL word (ns.take i) ++ ([32] ++ Lib.itoa (ns.getD i 0)) := by
 unfold rowL
 rw [take_snoc ns i h, List.flatMap_append, List.flatMap_singleton, List.append_assoc]
 rfl
theorem itoa_len {n : Int} (h : i64b n) : (Lib.itoa n).length ≤ 21 := Lib.itoa_length_le n h.1 h.2
theorem rowL_len {word : List UInt8} : ∀ {ns : List Int}, (∀ z ∈ ns, i64b z) → (rowL word ns).length ≤ word.length + 22 * ns.length
 | [], _ => by simp [rowL]
 | z :: ns, h => by
  have ih := rowL_len (word := word) (ns := ns) (fun y hy => h y (by simp [hy]))
  have := itoa_len (h z (by simp))
  unfold rowL at *
  simp only [List.flatMap_cons, List.length_append, List.length_cons] at *
  omega
set_option maxHeartbeats 1600000 in
theorem row_anyL (word : List UInt8) (ns : List Int) (A : Option Addr) (n c : Nat) (w : World) (ha : RdI .i64 w A n ns) (hb : ∀ z ∈ ns, i64b z) (hn : n ≤ 100000) (hw : word.length ≤ 1000000) (ht : LnT w) :
  Calls Tryz.prog 95 #[.string ⟨word.toArray⟩, .slice A n c] w fun e w' => e = .returned (.string ⟨(rowL word ns).toArray⟩) ∧ Below w.heap.size w w' := by
 have HA := yH ha
 have HB := yH hb
 have HT := yH ht
 have hl := ha.1
 clear ha hb ht
 go_enter Tryz.func95, Tryz.ntmps95
 go_wp2
 go_loopg [0, 9] n (RowI word ns w)
 case atStart => exact ⟨0, rfl, by omega, by simp [rowL], Below.refl _ _⟩
 case round =>
  obtain ⟨i, rfl, hi, rfl, hbel⟩ := hrel
  have HBel := yH hbel
  clear hbel
  by_cases hlt : i < n
  ·have hltI : (i : Int) < (n : Int) := by omega
   obtain ⟨b, off, rfl, _, hx⟩ := HA.out.cell HBel.out hlt
   have hzb := HB.out (ns.getD i 0) (by rw [List.getD_eq_getElem?_getD, List.getElem?_eq_getElem (by omega)]; exact List.getElem_mem (by omega))
   have HNx := yH (rowL_next (word := word) (ns := ns) (i := i) (by omega))
   generalize ns.getD i 0 = z at *
   have hz21 := itoa_len hzb
   have hr := rowL_len (word := word) (ns := ns.take i) (fun y hy => HB.out y (List.mem_of_mem_take hy))
   rw [List.length_take] at hr
   have hs1 : ¬ 9223372036854775807 < 1 + (Lib.itoa z).length := by omega
   have hs2 : ¬ 9223372036854775807 < (rowL word (ns.take i)).length + (1 + (Lib.itoa z).length) := by omega
   go_wp2_with fail
   refine (itoa_any z hzb wr (HT.out.below HBel.out)).mono ?_
   rintro ev w1 ⟨rfl, hb1⟩
   have HB1 := yH (below_chain HBel.out hb1)
   clear hb1
   go_wp2
   go_roundg (gk - 1)
   case measure => omega
   case rel =>
    refine ⟨i + 1, by go_num, by omega, ?_, HB1.out⟩
    rw [HNx.out, ← cat_list, ← cat_list]
  ·obtain rfl : i = n := by omega
   go_wp2
   go_ret
   refine ⟨?_, HBel.out⟩
   rw [List.take_of_length_le (by omega)]
   rfl
end Go.Proofs.YtffalfacakdhkaaGreatDoor
namespace Go.Proofs.YtffalfacakdhkaaGreatDoor
open Go.RowKit
set_option linter.unusedVariables false
set_option linter.unusedSimpArgs false

def HexI (bs : List Int) (n : Nat) (w : World) (k : Nat) (v iv : Value) (wr : World) : Prop :=
 ∃ i, iv = .int .i64 ((i : Nat) : Int) ∧ i + k = n ∧ wr.ownsRow w.heap.size 5 1 v (2 * i) (u8s (hexL (bs.take i))) ∧ Below w.heap.size w wr
theorem hexL_next {bs : List Int} {i : Nat} (h : i < bs.length) : hexL (bs.take (i + 1)) = hexL (bs.take i) ++ [hexD ((bs.getD i 0).toNat / 16), hexD ((bs.getD i 0).toNat % 16)] := by
 unfold hexL
 rw [take_snoc bs i h, List.flatMap_append, List.flatMap_singleton]
theorem hexL_len (bs : List Int) : (hexL bs).length = 2 * bs.length := by
 induction bs with
 | nil => rfl
 | cons z bs ih => unfold hexL at *; simp only [List.flatMap_cons, List.length_append, ih, List.length_cons, List.length_nil]; omega
theorem hexD_get : ∀ (q : Nat), q < 16 → ∀ h, (({ data := #[48, 49, 50, 51, 52, 53, 54, 55, 56, 57, 97, 98, 99, 100, 101, 102] } : ByteArray)[q]'h) = hexD q := by
 have : ∀ q : Fin 16, (({ data := #[48, 49, 50, 51, 52, 53, 54, 55, 56, 57, 97, 98, 99, 100, 101, 102] } : ByteArray)[q.val]'q.isLt) = hexD q.val := by decide
 exact fun q h _ => this ⟨q, h⟩
set_option maxHeartbeats 1600000 in
theorem hex_any (bs : List Int) (A : Option Addr) (n c : Nat) (w : World) (ha : RdI .u8 w A n bs) (hb : By bs) (hn : n ≤ 1000000) :
  Calls Tryz.prog 96 #[.slice A n c] w fun e w' => e = .returned (.string ⟨(hexL bs).toArray⟩) ∧ Below w.heap.size w w' := by
 have HA := yH ha
 have HB := yH hb
 have hl := ha.1
 clear ha hb
 go_enter Tryz.func96, Tryz.ntmps96
 go_wp2
 go_loopg [3, 8] n (HexI bs n w)
 case atStart => exact ⟨0, rfl, by omega, World.ownsRow_nil _ _ _ _, Below.refl _ _⟩
 case round =>
  obtain ⟨i, rfl, hi, ho, hbel⟩ := hrel
  have HBel := yH hbel
  have HO := yH ho
  clear hbel ho
  by_cases hlt : i < n
  ·have hltI : (i : Int) < (n : Int) := by omega
   obtain ⟨b, off, rfl, _, hx⟩ := HA.out.cell HBel.out hlt
   have hzb := HB.out (bs.getD i 0) (by rw [List.getD_eq_getElem?_getD, List.getElem?_eq_getElem (by omega)]; exact List.getElem_mem (by omega))
   have HNx := yH (hexL_next (bs := bs) (i := i) (by omega))
   generalize bs.getD i 0 = z at *
   obtain ⟨zn, rfl⟩ : ∃ zn : Nat, z = zn := ⟨z.toNat, by omega⟩
   obtain ⟨q, hq⟩ : ∃ q, zn / 16 = q := ⟨_, rfl⟩
   obtain ⟨r, hr⟩ : ∃ r, zn % 16 = r := ⟨_, rfl⟩
   have hq16 : q < 16 := by omega
   have hr16 : r < 16 := by omega
   have hqI : (q : Int) < 16 := by omega
   have hrI : (r : Int) < 16 := by omega
   have e1 : (zn : Int) / 16 = (q : Int) := by omega
   have e2 : bits .and .u8 (zn : Int) 15 = (r : Int) := by
    have h := bits_mask .u8 8 (by decide) (fun n h0 h1 => by rw [IntKind.wrap_u8]; omega) 4 (by omega) (zn : Int) (by omega) (by omega)
    rw [show (15 : Int) = 2 ^ 4 - 1 from rfl, h]
    omega
   rw [Int.toNat_natCast, hq, hr] at HNx
   clear hq hr
   go_wp2
   refine wp_region_qs (fun _ _ => True) [(0, some 1), (1, some 2), (2, some 2), (3, some 1), (4, some 2), (5, some 2), (6, some 1), (7, none), (8, none), (9, some 2)] (by kernel_rfl) (by kernel_rfl) (by kernel_rfl) (by kernel_rfl) (by kernel_rfl) (fun _ _ _ _ _ h => h) trivial ?_
   simp only [yD, yE, yF, yG]
   (repeat (first | (refine qs_mid (v := ?_) (by rfl) ?_ ?_; rotate_left 1; (· (intro j w' hj1 hj2 hS; go_simp; (try (simp only [↓IntWalk.iteOmega]; go_simp)); (try simp (disch := omega) only [IntWalk.i64_in]); try with_reducible rfl)); simp only [Act.put, yA, yB, yC]) | (refine qs_skip (by rfl) ?_; simp only [Act.put, yA, yB, yC])))
   rw [hexD_get q hq16, hexD_get r hr16]
   refine qs_act ?_
   go_wp2
   refine ⟨trivial, ?_⟩
   refine qs_act ?_
   obtain ⟨w2, hw2⟩ : ∃ w2, w2 = (wr.alloc (Obj.cells #[Value.int IntKind.u8 ↑(hexD q).toNat, Value.int IntKind.u8 ↑(hexD r).toNat] 5)).drew := ⟨_, rfl⟩
   have K2 := yH (show Blk w2 wr.heap.size 5 #[Value.int IntKind.u8 ↑(hexD q).toNat, Value.int IntKind.u8 ↑(hexD r).toNat] by rw [hw2]; exact (Blk.made _ _ _).drew)
   have L2 := yH (show Below wr.heap.size wr w2 by rw [hw2]; exact ((Below.refl _ _).alloc (Nat.le_refl _) _).drew)
   rw [← hw2]
   clear hw2
   have O2 := yH (own_lo8 HO.out L2.out)
   have B2 := yH (below_chain HBel.out L2.out)
   refine app_src rfl (.tmp 12) (.tmp 19) 25 rfl w.heap.size 5 _ 1 1 Tryz.underlying25 infoByte rfl (by omega) _ (2 * i) _ rfl O2.out _ 2 [Value.int .u8 ((hexD q).toNat : Int), Value.int .u8 ((hexD r).toNat : Int)] rfl (src_blk K2.out rfl) (by simp [Value.oneCell']) (by omega) (by omega) B2.out.size ?_
   intro v3 w3 ho3 hg3 hor3
   have O3 := yH ho3
   have B3 := yH (B2.out.grown hg3 B2.out.size (fun k hk => (O2.out.lt k hk).1))
   clear ho3 hg3 hor3
   refine wpList_nil ?_
   refine ⟨trivial, ?_⟩
   (repeat (first | (refine qs_mid (v := ?_) (by rfl) ?_ ?_; rotate_left 1; (· (intro j w' hj1 hj2 hS; go_simp; (try (simp only [↓IntWalk.iteOmega]; go_simp)); (try simp (disch := omega) only [IntWalk.i64_in]); try with_reducible rfl)); simp only [Act.put, yA, yB, yC]) | (refine qs_skip (by rfl) ?_; simp only [Act.put, yA, yB, yC])))
   refine qs_nil ?_
   go_wp2
   go_roundg (gk - 1)
   case measure => omega
   case rel =>
    refine ⟨i + 1, by go_num, by omega, ?_, B3.out⟩
    rw [HNx.out]
    unfold u8s
    rw [List.map_append, show 2 * (i + 1) = 2 * i + 2 by omega]
    exact O3.out
  ·obtain rfl : i = n := by omega
   obtain ⟨A3, c3, rfl, hc3⟩ := own_slice HO.out
   have he := conv_own HO.out
   rw [List.take_of_length_le (by omega)] at he
   go_wp2
   go_ret
   exact ⟨rfl, HBel.out⟩
end Go.Proofs.YtffalfacakdhkaaGreatDoor
namespace Go.Proofs.YtffalfacakdhkaaGreatDoor
open Go.RowKit
set_option linter.unusedVariables false
set_option linter.unusedSimpArgs false

def wrongV : Value := .iface 89 (.agg #[])
def NumPostL (l : List UInt8) (w : World) (e : Ending) (w' : World) : Prop :=
 Below w.heap.size w w' ∧ match numL l with
  | some v => e = .returned (.tuple #[.int .i64 v, .nilIface])
  | none => e = .returned (.tuple #[.int .i64 0, wrongV])
theorem beq_dec (a b : List UInt8) : (a == b) = decide (a = b) := by
 cases h : a == b
 ·simp at h; simp [h]
 ·simp at h; simp [h]
theorem ba_list (s : ByteArray) : s.toList = s.data.toList := ByteArray.toList_eq s
theorem number_any (s : ByteArray) (w : World) (ht : LnT w) (hs : s.size ≤ 100000000) :
  Calls Tryz.prog 91 #[.string s] w (NumPostL s.data.toList w) := by
 have HT := yH ht
 unfold NumPostL
 unfold numL
 rcases h : Lib.atoiAll s.data.toList with v | _ | _
 ·
  have hb := Lib.atoiAll_bounds h
  have hA := Tryz.strconv_Atoi_ok s (by omega) v h w
  clear ht
  have e1 : (Lib.itoa v == s.toList) = decide (Lib.itoa v = s.data.toList) := by
   rw [ba_list]
   exact beq_dec _ _
  simp only
  by_cases hi : Lib.itoa v = s.data.toList
  ·rw [if_pos hi]
   rw [decide_eq_true hi] at e1
   go_enter Tryz.func91, Tryz.ntmps91
   go_wp2_with fail
   refine hA.mono ?_
   rintro ev w1 ⟨rfl, hw1⟩
   have B1 := yH (show Below w.heap.size w w1 by
    rcases hw1 with rfl | ⟨t, rfl⟩
    ·exact Below.refl _ _
    ·exact Lib.bytesWorld_below _ _ _)
   clear hw1
   go_wp2_with fail
   refine (itoa_any v hb w1 (HT.out.below B1.out)).mono ?_
   rintro ev w2 ⟨rfl, hb2⟩
   have B2 := yH (below_chain B1.out hb2)
   clear hb2
   go_wp2
   go_ret2
   exact ⟨B2.out, rfl⟩
  ·rw [if_neg hi]
   rw [decide_eq_false hi] at e1
   go_enter Tryz.func91, Tryz.ntmps91
   go_wp2_with fail
   refine hA.mono ?_
   rintro ev w1 ⟨rfl, hw1⟩
   have B1 := yH (show Below w.heap.size w w1 by
    rcases hw1 with rfl | ⟨t, rfl⟩
    ·exact Below.refl _ _
    ·exact Lib.bytesWorld_below _ _ _)
   clear hw1
   go_wp2_with fail
   refine (itoa_any v hb w1 (HT.out.below B1.out)).mono ?_
   rintro ev w2 ⟨rfl, hb2⟩
   have B2 := yH (below_chain B1.out hb2)
   clear hb2
   go_wp2
   go_ret2
   exact ⟨B2.out, rfl⟩
 ·
  obtain ⟨tp, p, hv⟩ := ht.syn
  have hA := Tryz.strconv_Atoi_bad_var s (by omega) (fun v hh => by rw [h] at hh; cases hh) (fun hh => by rw [h] at hh; cases hh) tp p w hv
  simp only
  go_enter Tryz.func91, Tryz.ntmps91
  go_wp2_with fail
  refine hA.mono ?_
  rintro ev w1 ⟨N, rfl, _, _, hb1⟩
  have B1 := yH hb1
  clear hb1
  go_wp2
  go_ret2
  exact ⟨B1.out, rfl⟩
 ·
  obtain ⟨tp, p, hv⟩ := ht.rng
  have hA := Tryz.strconv_Atoi_range_var s (by omega) h tp p w hv
  simp only
  go_enter Tryz.func91, Tryz.ntmps91
  go_wp2_with fail
  refine hA.mono ?_
  rintro ev w1 ⟨N, rfl, _, _, hb1⟩
  have B1 := yH hb1
  clear hb1
  go_wp2
  go_ret2
  exact ⟨B1.out, rfl⟩
end Go.Proofs.YtffalfacakdhkaaGreatDoor
namespace Go.Proofs.YtffalfacakdhkaaGreatDoor
open Go.RowKit
set_option linter.unusedVariables false
set_option linter.unusedSimpArgs false

def hexV (c : UInt8) : Option Nat := if 48 ≤ c.toNat ∧ c.toNat ≤ 57 then some (c.toNat - 48) else if 97 ≤ c.toNat ∧ c.toNat ≤ 102 then some (c.toNat - 87) else none
def pairsL : List UInt8 → Option (List Int)
 | [] => some []
 | [_] => none
 | a :: b :: r => match hexV a, hexV b with
  | some x, some y => (pairsL r).map fun o => ((16 * x + y : Nat) : Int) :: o
  | _, _ => none
def noneW : List UInt8 := [110, 111, 110, 101]
def unhexL (l : List UInt8) : Option (List Int) := if l = noneW then some [] else if l = [] then none else pairsL l
theorem hexV_lt {c : UInt8} {x : Nat} (h : hexV c = some x) : x < 16 := by
 unfold hexV at h
 split at h
 ·injection h with h; omega
 ·split at h
  ·injection h with h; omega
  ·cases h
theorem idx_hex (c : UInt8) : Lib.indexByte digitsL c = match hexV c with
  | some x => (x : Int)
  | none => -1 := by
 have : ∀ n : Fin 256, Lib.indexByte digitsL (UInt8.ofNat n.val) = match hexV (UInt8.ofNat n.val) with
  | some x => (x : Int)
  | none => -1 := by decide +kernel
 have h := this ⟨c.toNat, c.toNat_lt⟩
 rwa [show UInt8.ofNat c.toNat = c from UInt8.ofNat_toNat] at h
theorem or16 : ∀ x y : Nat, x < 16 → y < 16 → bits .or .i64 ((x : Int) * 16) (y : Int) = ((16 * x + y : Nat) : Int) := by
 have : ∀ x y : Fin 16, bits .or .i64 ((x.val : Int) * 16) (y.val : Int) = ((16 * x.val + y.val : Nat) : Int) := by decide +kernel
 exact fun x y hx hy => this ⟨x, hx⟩ ⟨y, hy⟩
theorem ba_get (s : ByteArray) (i : Nat) (h : i < s.size) : s[i] = s.data.toList.getD i 0 := by
 have : i < s.data.toList.length := by rw [Array.length_toList]; exact h
 rw [List.getD_eq_getElem?_getD, List.getElem?_eq_getElem this]
 rfl
def hexI (c : UInt8) : Int := match hexV c with
 | some x => (x : Int)
 | none => -1
theorem idxb_any (c : UInt8) (w : World) : Calls Tryz.prog 177 #[.string ⟨#[48, 49, 50, 51, 52, 53, 54, 55, 56, 57, 97, 98, 99, 100, 101, 102]⟩, .int .u8 (c.toNat : Int)] w fun e w' => e = .returned (.int .i64 (hexI c)) ∧ w' = w := by
 refine (Tryz.strings_IndexByte _ _ w).mono ?_
 rintro e w' ⟨rfl, rfl⟩
 refine ⟨?_, rfl⟩
 rw [Int.toNat_natCast, show c.toNat.toUInt8 = c from UInt8.ofNat_toNat]
 exact congrArg (fun x => Ending.returned (.int .i64 x)) (idx_hex c)
def UnPost (l : List UInt8) (w : World) (e : Ending) (w' : World) : Prop :=
 Below w.heap.size w w' ∧ match unhexL l with
  | some o => ∃ A c, e = .returned (.tuple #[.slice A o.length c, .nilIface]) ∧ w'.ownsRow w.heap.size 5 1 (.slice A o.length c) o.length (o.map (Value.int .u8))
  | none => e = .returned (.tuple #[.slice none 0 0, wrongV])
def UnI (l : List UInt8) (n : Nat) (w : World) (k : Nat) (ov iv : Value) (wr : World) : Prop :=
 ∃ (j : Nat) (o : List Int), iv = .int .i64 ((j : Nat) : Int) ∧ j ≤ n ∧ j + k = n ∧ 2 * o.length = j ∧ wr.ownsRow w.heap.size 5 1 ov o.length (o.map (Value.int .u8)) ∧ Below w.heap.size w wr ∧ pairsL l = (pairsL (l.drop j)).map fun r => o ++ r
theorem drop2 {l : List UInt8} {j : Nat} (h : j + 1 < l.length) : l.drop j = l.getD j 0 :: l.getD (j + 1) 0 :: l.drop (j + 2) := by
 rw [List.drop_eq_getElem_cons (by omega), List.drop_eq_getElem_cons h, List.getD_eq_getElem?_getD, List.getD_eq_getElem?_getD, List.getElem?_eq_getElem (by omega), List.getElem?_eq_getElem h]
 rfl
set_option maxHeartbeats 1600000 in
theorem unhex_any (s : ByteArray) (w : World) (hs : s.size ≤ 100000000) :
  Calls Tryz.prog 92 #[.string s] w (UnPost s.data.toList w) := by
 have hsz : s.data.toList.length = s.size := by rw [Array.length_toList]; rfl
 have e0 : (s.toList == ([110, 111, 110, 101] : List UInt8)) = decide (s.data.toList = noneW) := by
  rw [ba_list]; exact beq_dec _ _
 by_cases hno : s.data.toList = noneW
 ·rw [decide_eq_true hno] at e0
  unfold UnPost
  unfold unhexL
  rw [if_pos hno]
  simp only
  go_enter Tryz.func92, Tryz.ntmps92
  go_wp2
  go_ret2
  exact ⟨Below.refl _ _, none, 0, rfl, World.ownsRow_nil _ _ _ _⟩
 ·rw [decide_eq_false hno] at e0
  go_enter Tryz.func92, Tryz.ntmps92
  go_wp2
  go_loopg [4, 5] s.size (UnI s.data.toList s.size w)
  case atStart =>
   refine ⟨0, [], rfl, by omega, by omega, rfl, World.ownsRow_nil _ _ _ _, Below.refl _ _, ?_⟩
   rw [List.drop_zero]
   cases pairsL s.data.toList <;> rfl
  case round =>
   obtain ⟨j, o, rfl, hi, hk, hol, ho, hb, hp⟩ := hrel
   have HO := yH ho
   have HB := yH hb
   have HP := yH hp
   have HL := yH hol
   clear ho hb hp hol
   by_cases hlt : j + 1 < s.size
   ·have hltI : (j : Int) + 1 < (s.size : Int) := by omega
    have hltJ : (j : Int) < (s.size : Int) := by omega
    have h1 : j < s.data.size := by have : s.data.size = s.size := rfl; omega
    have h2 : j + 1 < s.data.size := hlt
    have g1 := ba_get s j (by omega)
    have g2 := ba_get s (j + 1) hlt
    have HD := yH (drop2 (l := s.data.toList) (j := j) (by omega))
    generalize s.data.toList.getD j 0 = ca at *
    generalize s.data.toList.getD (j + 1) 0 = cb at *
    go_wp2
    refine wp_region_qs (fun _ _ => True) [(0, some 2), (1, some 2), (2, some 1), (4, some 2), (5, some 2), (6, some 2), (7, some 1), (3, none), (8, none), (9, some 2), (10, some 2)] (by kernel_rfl) (by kernel_rfl) (by kernel_rfl) (by kernel_rfl) (by kernel_rfl) (fun _ _ _ _ _ h => h) trivial ?_
    simp only [yD, yE, yF, yG]
    (repeat (first | (refine qs_mid (v := ?_) (by rfl) ?_ ?_; rotate_left 1; (· (intro j w' hj1 hj2 hS; go_simp; (try (simp only [↓IntWalk.iteOmega]; go_simp)); (try simp (disch := omega) only [IntWalk.i64_in]); try with_reducible rfl)); simp only [Act.put, yA, yB, yC]) | (refine qs_skip (by rfl) ?_; simp only [Act.put, yA, yB, yC])))
    refine qs_act ?_
    go_wp2_with fail
    refine (idxb_any ca _).mono ?_
    rintro ev w1 ⟨rfl, rfl⟩
    go_wp2
    refine ⟨trivial, ?_⟩
    refine qs_act ?_
    go_wp2_with fail
    refine (idxb_any cb _).mono ?_
    rintro ev w1 ⟨rfl, rfl⟩
    go_wp2
    refine ⟨trivial, ?_⟩
    (repeat (first | (refine qs_mid (v := ?_) (by rfl) ?_ ?_; rotate_left 1; (· (intro j w' hj1 hj2 hS; go_simp; (try (simp only [↓IntWalk.iteOmega]; go_simp)); (try simp (disch := omega) only [IntWalk.i64_in]); try with_reducible rfl)); simp only [Act.put, yA, yB, yC]) | (refine qs_skip (by rfl) ?_; simp only [Act.put, yA, yB, yC])))
    refine qs_nil ?_
    have bad : (hexV ca = none ∨ hexV cb = none) → unhexL s.data.toList = none := fun h => by
     have hn : s.data.toList ≠ [] := fun h => by rw [h] at hsz; simp at hsz; omega
     unfold unhexL
     rw [if_neg hno, if_neg hn, HP.out, HD.out, pairsL]
     rcases h with h | h
     ·rw [h]; rfl
     ·rw [h]
      cases hexV ca <;> rfl
    have Bad := yH bad
    clear bad
    cases ha : hexV ca with
    | none =>
     have ea : hexI ca = -1 := by unfold hexI; rw [ha]
     have HU := yH (Bad.out (.inl ha))
     clear ha
     go_wp2
     go_ret2
     refine ⟨HB.out.drew, ?_⟩
     rw [HU.out]
     rfl
    | some x =>
     have ea : hexI ca = (x : Int) := by unfold hexI; rw [ha]
     cases hb : hexV cb with
     | none =>
      have eb : hexI cb = -1 := by unfold hexI; rw [hb]
      have HU := yH (Bad.out (.inr hb))
      clear ha hb
      go_wp2
      go_ret2
      refine ⟨HB.out.drew, ?_⟩
      rw [HU.out]
      rfl
     | some y =>
      have eb : hexI cb = (y : Int) := by unfold hexI; rw [hb]
      have hx := hexV_lt ha
      have hy := hexV_lt hb
      have HP2 := yH (show pairsL s.data.toList = (pairsL (s.data.toList.drop (j + 2))).map fun r => (o ++ [((16 * x + y : Nat) : Int)]) ++ r by
       rw [HP.out, HD.out, pairsL, ha, hb]
       simp only
       cases pairsL (s.data.toList.drop (j + 2)) <;> simp)
      have e16 := or16 x y hx hy
      clear ha hb Bad
      have hz : 16 * x + y < 256 := by omega
      generalize 16 * x + y = z at *
      have e18 : (z : Int) % 256 = z := by omega
      obtain ⟨wd, hwd⟩ : ∃ wd, wd = wr.drew := ⟨_, rfl⟩
      have Ld := yH (show Below wr.heap.size wr wd by rw [hwd]; exact (Below.refl _ _).drew)
      rw [← hwd]
      clear hwd
      have Od := yH (own_lo8 HO.out Ld.out)
      have Bd := yH (below_chain HB.out Ld.out)
      have hol2 : o.length ≤ 100000000 := by have := HL.out; omega
      go_wp2_with (at_builtin; refine heldW ?_)
      unfold HeldW
      refine app_src rfl (.tmp 34) (.tmp 40) 25 rfl w.heap.size 5 _ 1 1 Tryz.underlying25 infoByte rfl (by omega) _ o.length _ rfl (Od.out.alloc _) _ 1 [Value.int .u8 (z : Int)] rfl (src8 _ _ _) (by simp [Value.oneCell']) (by omega) (by omega) (by have := Bd.out.size; simp; omega) ?_
      intro v2 w2 ho2 hg2 hor2
      have O2 := yH ho2
      have G2 := yH hg2
      clear ho2 hg2 hor2
      go_wp2
      have L2 := yH ((Bd.out.alloc Bd.out.size _).grown G2.out (by have := Bd.out.size; simp; omega) (fun k hk => (Od.out.lt k hk).1))
      go_roundg (gk - 2)
      case measure => omega
      case rel =>
       refine ⟨j + 2, o ++ [(z : Int)], by go_num, by omega, by omega, by have := HL.out; simp; omega, ?_, L2.out, HP2.out⟩
       have h2 := O2.out
       rw [List.length_append, List.map_append]
       exact h2
   ·have hltI : ¬ (j : Int) + 1 < (s.size : Int) := by omega
    by_cases hemp : s.size = 0
    ·have he : s.toList.isEmpty = true := by
      rw [ba_list]
      have : s.data.toList = [] := List.eq_nil_of_length_eq_zero (by omega)
      rw [this]; rfl
     go_wp2
     go_ret2
     refine ⟨HB.out, ?_⟩
     have hn : s.data.toList = [] := List.eq_nil_of_length_eq_zero (by omega)
     unfold unhexL
     rw [if_neg hno, if_pos hn]
     rfl
    ·have he : s.toList.isEmpty = false := by
      rw [ba_list]
      cases h : s.data.toList with
      | nil => rw [h] at hsz; simp at hsz; omega
      | cons a b => rfl
     have hn : s.data.toList ≠ [] := fun h => by rw [h] at hsz; simp at hsz; omega
     by_cases hodd : s.size = j + 1
     ·have hm : ((s.size : Int) % 2 != 0) = true := by have := HL.out; simp; omega
      have hm' : (s.size : Int) % 2 = 1 := by have := HL.out; omega
      have hd : ∃ c, s.data.toList.drop j = [c] := by
       rw [List.drop_eq_getElem_cons (by omega), List.drop_eq_nil_of_le (by omega)]
       exact ⟨_, rfl⟩
      obtain ⟨c, hd⟩ := hd
      have hu : unhexL s.data.toList = none := by
       unfold unhexL
       rw [if_neg hno, if_neg hn, HP.out, hd]
       rfl
      have HU := yH hu
      clear hodd hd hu
      go_wp2
      go_ret2
      refine ⟨HB.out, ?_⟩
      rw [HU.out]
      rfl
     ·have hj : s.size = j := by omega
      have hm : ((s.size : Int) % 2 != 0) = false := by have := HL.out; simp; omega
      have hm' : (s.size : Int) % 2 = 0 := by have := HL.out; omega
      have hu : unhexL s.data.toList = some o := by
       unfold unhexL
       rw [if_neg hno, if_neg hn, HP.out, List.drop_eq_nil_of_le (by omega)]
       simp [pairsL]
      have HU := yH hu
      clear hodd hj hu
      obtain ⟨Ao, co, rfl, hco⟩ := own_slice HO.out
      go_wp2
      go_ret2
      refine ⟨HB.out, ?_⟩
      rw [HU.out]
      exact ⟨Ao, co, rfl, HO.out⟩
end Go.Proofs.YtffalfacakdhkaaGreatDoor
