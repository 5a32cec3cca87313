/-
  what this claim needs of: HuffSpec, KitBytes, Fork, W32, ShaPlain, HuffCounts, Sha2, CrcPlain (written by cut.py).
-/
import Derived.Test.YtffalfacakdhkaaGreatDoorDMem
import Derived.WalkKit
import Derived.Test.YtffalfacakdhkaaGreatDoorProg
namespace Go.Proofs.YtffalfacakdhkaaGreatDoor

/-- How many of the lengths are l. -/
def cnt (zs : List Int) (l : Nat) : Nat := (zs.filter (fun z => z == (l : Int))).length
/-- The row that 'counts' makes: place 0 stays 0. -/
def cntI (zs : List Int) (l : Nat) : Int := if l = 0 then 0 else (cnt zs l : Int)
def posn (zs : List Int) : Nat := (zs.filter (fun z => decide (0 < z))).length
def okLen (z : Int) : Bool := decide (0 ≤ z) && decide (z ≤ 15)
/-- What is left of the codes of l bits. -/
def leftAt (zs : List Int) : Nat → Int
 | 0 => 1
 | l + 1 => 2 * leftAt zs l - cntI zs (l + 1)
def leftsOk (zs : List Int) : Nat → Bool
 | 0 => true
 | l + 1 => leftsOk zs l && decide (0 ≤ leftAt zs (l + 1))
theorem take_snoc (zs : List Int) (k : Nat) (h : k < zs.length) : zs.take (k + 1) = zs.take k ++ [zs.getD k 0] := by
 rw [List.take_succ_eq_append_getElem h]
 simp [h]
end Go.Proofs.YtffalfacakdhkaaGreatDoor
namespace Go.Proofs.YtffalfacakdhkaaGreatDoor
set_option linter.unusedVariables false

end Go.Proofs.YtffalfacakdhkaaGreatDoor
namespace Go.Proofs.YtffalfacakdhkaaGreatDoor
open Go.RowKit
set_option linter.unusedVariables false

theorem src8 (W : World) (t : TypeId) (y : Value) : Src (W.alloc (.cells #[y] t)) 1 (.slice (some ⟨W.heap.size, 0, none⟩) 1 1) 1 [y] :=
 ⟨_, 1, rfl, rfl, fun _ => ⟨W.heap.size, 0, rfl, by simp, fun j u hu => by rw [Nat.zero_add, (Blk.made W t #[y]).cellq]; simpa using hu⟩⟩
/-- What Pick makes of a number. -/
def pickI (x n : Int) : Int := if n < 1 then 0 else x % n
theorem pick_bd (x n : Int) (h : 1 ≤ n) : 0 ≤ pickI x n ∧ pickI x n < n := by
 unfold pickI
 rw [if_neg (by omega)]
 exact ⟨Int.emod_nonneg _ (by omega), Int.emod_lt_of_pos _ (by omega)⟩
theorem tmod_fix (x n : Int) (h : 1 ≤ n) : (if x.tmod n < 0 then x.tmod n + n else x.tmod n) = x % n := by
 have h1 := Int.tmod_lt_of_pos x (show 0 < n by omega)
 rw [Int.tmod_eq_emod]
 have h2 := Int.emod_nonneg x (show n ≠ 0 by omega)
 have h3 := Int.emod_lt_of_pos x (show 0 < n by omega)
 split <;> split <;> omega
theorem pick_any (x n : Int) (w : World) (hx : -9223372036854775808 ≤ x ∧ x ≤ 9223372036854775807) (hn : n ≤ 9223372036854775807) :
  Calls Tryz.prog 7 #[.int .i64 x, .int .i64 n] w fun e w' => e = .returned (.int .i64 (pickI x n)) ∧ w = w' := by
 by_cases h : n < 1
 ·have HP : pickI x n = 0 := by unfold pickI; rw [if_pos h]
  go_enter Tryz.func7, Tryz.ntmps7
  go_wp2
  go_ret
  exact ⟨by rw [HP]; rfl, rfl⟩
 ·have HP : pickI x n = x % n := by unfold pickI; rw [if_neg h]
  have HT := yH (tmod_fix x n (by omega))
  have h2 := Int.emod_nonneg x (show n ≠ 0 by omega)
  have h3 := Int.emod_lt_of_pos x (show 0 < n by omega)
  have dn : decide (n < 1) = false := by simpa using h
  have hb1 := Int.tmod_lt_of_pos x (show 0 < n by omega)
  have hb2 : -n < x.tmod n := by
   rw [Int.tmod_eq_emod]
   split <;> omega
  rw [HP]
  by_cases h4 : x.tmod n < 0
  ·have e := HT.out
   rw [if_pos h4] at e
   have HE := yH e
   clear e HT
   have d4 : decide (x.tmod n < 0) = true := by simpa using h4
   go_enter Tryz.func7, Tryz.ntmps7
   go_wp2
   go_ret
   exact ⟨by rw [← HE.out]; rfl, rfl⟩
  ·have e := HT.out
   rw [if_neg h4] at e
   have HE := yH e
   clear e HT
   have d4 : decide (x.tmod n < 0) = false := by simpa using h4
   go_enter Tryz.func7, Tryz.ntmps7
   go_wp2
   go_ret
   exact ⟨by rw [← HE.out]; rfl, rfl⟩
end Go.Proofs.YtffalfacakdhkaaGreatDoor
namespace Go.Proofs.YtffalfacakdhkaaGreatDoor
open Go.RowKit
set_option linter.unusedVariables false

/-- A goal held: a walk stops here. -/
def HeldG (p : Prop) : Prop := p
end Go.Proofs.YtffalfacakdhkaaGreatDoor
namespace Go.Proofs.YtffalfacakdhkaaGreatDoor
open Go.RowKit
set_option linter.unusedVariables false

/-- A word's number. -/
def wv (x : BitVec 32) : Int := (x.toNat : Int)
theorem wv_bd (x : BitVec 32) : 0 ≤ wv x ∧ wv x < 4294967296 := by
 have := x.isLt
 unfold wv
 omega
theorem of_wv (x : BitVec 32) : BitVec.ofInt 32 (wv x) = x := by
 unfold wv
 rw [BitVec.ofInt_natCast]
 simp
theorem wrap_wv (x : BitVec 32) : IntKind.u32.wrap (wv x) = wv x := by
 have := wv_bd x
 rw [IntKind.wrap_u32]
 omega
theorem bits_xor (x y : BitVec 32) : bits .xor .u32 (wv x) (wv y) = wv (x ^^^ y) := by
 show IntKind.u32.wrap (wv (BitVec.ofInt 32 (wv x) ^^^ BitVec.ofInt 32 (wv y))) = _
 rw [of_wv, of_wv, wrap_wv]
theorem bits_and (x y : BitVec 32) : bits .and .u32 (wv x) (wv y) = wv (x &&& y) := by
 show IntKind.u32.wrap (wv (BitVec.ofInt 32 (wv x) &&& BitVec.ofInt 32 (wv y))) = _
 rw [of_wv, of_wv, wrap_wv]
theorem shr_wv (x : BitVec 32) (s : Nat) : wv x / 2 ^ s = wv (x >>> s) := by
 unfold wv
 rw [BitVec.toNat_ushiftRight, Nat.shiftRight_eq_div_pow]
 rw [show ((2 : Int) ^ s) = ((2 ^ s : Nat) : Int) by simp]
 omega
/-- A byte put into a word. -/
def b32 (z : Nat) : BitVec 32 := BitVec.ofNat 32 z
theorem b32_wv {z : Nat} (h : z < 256) : (z : Int) = wv (b32 z) := by
 unfold wv b32
 rw [BitVec.toNat_ofNat]
 omega
def rotr (x : BitVec 32) (n : Nat) : BitVec 32 := (x >>> n) ||| (x <<< (32 - n))
def ch (e f g : BitVec 32) : BitVec 32 := (e &&& f) ^^^ (~~~e &&& g)
def maj (a b c : BitVec 32) : BitVec 32 := (a &&& b) ^^^ (a &&& c) ^^^ (b &&& c)
def Sg0 (x : BitVec 32) : BitVec 32 := rotr x 2 ^^^ rotr x 13 ^^^ rotr x 22
def Sg1 (x : BitVec 32) : BitVec 32 := rotr x 6 ^^^ rotr x 11 ^^^ rotr x 25
end Go.Proofs.YtffalfacakdhkaaGreatDoor
namespace Go.Proofs.YtffalfacakdhkaaGreatDoor
open Go.RowKit
set_option linter.unusedVariables false

def roundsN : List Nat := [1116352408, 1899447441, 3049323471, 3921009573, 961987163, 1508970993, 2453635748, 2870763221, 3624381080, 310598401, 607225278, 1426881987, 1925078388, 2162078206, 2614888103, 3248222580, 3835390401, 4022224774, 264347078, 604807628, 770255983, 1249150122, 1555081692, 1996064986, 2554220882, 2821834349, 2952996808, 3210313671, 3336571891, 3584528711, 113926993, 338241895, 666307205, 773529912, 1294757372, 1396182291, 1695183700, 1986661051, 2177026350, 2456956037, 2730485921, 2820302411, 3259730800, 3345764771, 3516065817, 3600352804, 4094571909, 275423344, 430227734, 506948616, 659060556, 883997877, 958139571, 1322822218, 1537002063, 1747873779, 1955562222, 2024104815, 2227730452, 2361852424, 2428436474, 2756734187, 3204031479, 3329325298]
def roundsW : List (BitVec 32) := roundsN.map (BitVec.ofNat 32)
structure S8 where
 a : BitVec 32
 b : BitVec 32
 c : BitVec 32
 d : BitVec 32
 e : BitVec 32
 f : BitVec 32
 g : BitVec 32
 h : BitVec 32
def S8.of (l : List (BitVec 32)) : S8 := ⟨l.getD 0 0, l.getD 1 0, l.getD 2 0, l.getD 3 0, l.getD 4 0, l.getD 5 0, l.getD 6 0, l.getD 7 0⟩
def rnd (v : S8) (k w : BitVec 32) : S8 :=
 let t := v.h + Sg1 v.e + ch v.e v.f v.g + k + w
 let u := Sg0 v.a + maj v.a v.b v.c
 ⟨t + u, v.a, v.b, v.c, v.d + t, v.e, v.f, v.g⟩
def rnds (ws : List (BitVec 32)) (v : S8) : Nat → S8
 | 0 => v
 | i + 1 => rnd (rnds ws v i) (roundsW.getD i 0) (ws.getD i 0)
end Go.Proofs.YtffalfacakdhkaaGreatDoor
namespace Go.Proofs.YtffalfacakdhkaaGreatDoor
open Go.RowKit
set_option linter.unusedVariables false

def cntv (zs : List Int) (l : Nat) : Value := Value.int .i64 (cntI zs l)
def rowOf (f : Nat → Value) (n : Nat) : Array Value := ((List.range n).map f).toArray
/-- The relation of the first loop. -/
def C1 (zs : List Int) (n : Nat) (w : World) (a i : Value) (wr : World) : Prop :=
 ∃ k : Nat, k ≤ n ∧ i = .int .i64 k ∧ a = .int .i64 (posn (zs.take k)) ∧ (zs.take k).all okLen = true ∧ Blk wr (w.heap.size + 1) 676 (rowOf (cntv (zs.take k)) 16) ∧
  (∃ cs : Array Value, Blk wr w.heap.size 676 cs ∧ cs.size = 16) ∧ Below w.heap.size w wr

/-- The relation of the second loop: the world stands. -/
def C2 (zs : List Int) (l i : Value) : Prop := ∃ k : Nat, k ≤ 15 ∧ i = .int .i64 k ∧ l = .int .i64 (leftAt zs k) ∧ leftsOk zs k = true

end Go.Proofs.YtffalfacakdhkaaGreatDoor
namespace Go.Proofs.YtffalfacakdhkaaGreatDoor
open Go.RowKit
set_option linter.unusedVariables false
set_option linter.unusedSimpArgs false

def u32v (x : BitVec 32) : Value := .int .u32 (wv x)
def wvs (s : List (BitVec 32)) : Array Value := (s.map u32v).toArray
theorem range_below {w w' : World} {g o : Nat} {l : List Value} (h : w.rangeAt g o l) (hb : Below w.heap.size w w') : w'.rangeAt g o l := fun j v hv => (World.cell?_of_block (a := ⟨g, o + j, none⟩) (hb.block g (block_lt_of_cell (h j v hv)))).trans (h j v hv)
def rowW (ws : List (BitVec 32)) (i : Nat) : Array Value := rowOf (fun j => if j < i then u32v (ws.getD j 0) else .int .u32 0) 64
def W2 (ws : List (BitVec 32)) (s : List (BitVec 32)) (g : Nat) (w : World) (k : Nat) (iv va vb vc vd ve vf vg vh : Value) (wr : World) : Prop :=
 ∃ (i : Nat) (v : S8), iv = .int .i64 ((i : Nat) : Int) ∧ i ≤ 64 ∧ i + k ≤ 64 ∧ 64 ≤ i + k ∧ va = .int .u32 (wv v.a) ∧ vb = .int .u32 (wv v.b) ∧ vc = .int .u32 (wv v.c) ∧ vd = .int .u32 (wv v.d) ∧ ve = .int .u32 (wv v.e) ∧ vf = .int .u32 (wv v.f) ∧ vg = .int .u32 (wv v.g) ∧ vh = .int .u32 (wv v.h) ∧
  v = rnds ws (S8.of s) i ∧ Blk wr w.heap.size 587 (rowW ws 64) ∧ Blk wr g 542 (wvs s) ∧ Below w.heap.size w wr
def rowS (s vl : List (BitVec 32)) (i : Nat) : Array Value := rowOf (fun j => if j < i then u32v (s.getD j 0 + vl.getD j 0) else u32v (s.getD j 0)) 8
theorem gb_trans {a b c : World} {r : Option Nat} (h : a.grownBy b r) (k : b.grownBy c r) : a.grownBy c r :=
 ⟨k.os.trans h.os, k.tape.trans h.tape, k.output.trans h.output, Nat.le_trans h.size k.size, fun j hj hr => (k.block j (Nat.lt_of_lt_of_le hj h.size) hr).trans (h.block j hj hr)⟩
theorem gb_put (w : World) (p : Addr) (u : Value) : w.grownBy (w.setCell p u).drew (some p.block) := ⟨rfl, rfl, rfl, by simp [World.drew], fun k _ hk => Below.heap_setCell w p u k (fun e => hk (by rw [e]))⟩
def W3 (s vl : List (BitVec 32)) (g : Nat) (w : World) (k : Nat) (iv : Value) (wr : World) : Prop :=
 ∃ i : Nat, iv = .int .i64 ((i : Nat) : Int) ∧ i ≤ 8 ∧ i + k ≤ 8 ∧ 8 ≤ i + k ∧ Blk wr g 542 (rowS s vl i) ∧ w.grownBy wr (some g)
def W1 (ws : List (BitVec 32)) (w : World) (k : Nat) (iv : Value) (wr : World) : Prop :=
 ∃ i : Nat, iv = .int .i64 ((i : Nat) : Int) ∧ i ≤ 64 ∧ i + k ≤ 64 ∧ 64 ≤ i + k ∧ Blk wr w.heap.size 587 (rowW ws i) ∧ Below w.heap.size w wr
end Go.Proofs.YtffalfacakdhkaaGreatDoor
namespace Go.Proofs.YtffalfacakdhkaaGreatDoor
open Go.RowKit
set_option linter.unusedVariables false

def polyW : BitVec 32 := BitVec.ofNat 32 2197175160
def stepC (p x : BitVec 32) : BitVec 32 := if x.getLsbD 0 then (x >>> 1) ^^^ p else x >>> 1
def stepN (p : BitVec 32) : Nat → BitVec 32 → BitVec 32
 | 0, x => x
 | k + 1, x => stepC p (stepN p k x)
theorem stepC_xor (p x y : BitVec 32) : stepC p (x ^^^ y) = stepC p x ^^^ stepC p y := by
 unfold stepC
 rw [BitVec.getLsbD_xor, BitVec.ushiftRight_xor_distrib]
 cases x.getLsbD 0 <;> cases y.getLsbD 0
 ·simp
 ·simp [BitVec.xor_assoc]
 ·simp only [Bool.xor_false, if_true, Bool.false_eq_true, if_false]
  rw [BitVec.xor_assoc, BitVec.xor_comm (y >>> 1) p, BitVec.xor_assoc]
 ·simp only [Bool.xor_self, Bool.false_eq_true, if_false, if_true]
  rw [BitVec.xor_assoc (x >>> 1) p, ← BitVec.xor_assoc p (y >>> 1) p, BitVec.xor_comm p (y >>> 1), BitVec.xor_assoc (y >>> 1) p p, BitVec.xor_self, BitVec.xor_zero]
theorem stepN_xor (p x y : BitVec 32) : ∀ k, stepN p k (x ^^^ y) = stepN p k x ^^^ stepN p k y
 | 0 => rfl
 | k + 1 => by rw [stepN, stepN, stepN, stepN_xor p x y k, stepC_xor]
theorem stepN_high (p x : BitVec 32) : ∀ k, (∀ i, i < k → x.getLsbD i = false) → stepN p k x = x >>> k
 | 0, _ => by simp [stepN]
 | k + 1, h => by
  rw [stepN, stepN_high p x k (fun i hi => h i (by omega))]
  unfold stepC
  rw [BitVec.getLsbD_ushiftRight, Nat.add_zero, h k (by omega)]
  simp [BitVec.shiftRight_add]
theorem stepC_neg (p x : BitVec 32) : (x >>> 1) ^^^ (p &&& -(x &&& 1#32)) = stepC p x := by
 unfold stepC
 have h : x &&& 1#32 = if x.getLsbD 0 then 1#32 else 0#32 := by
  apply BitVec.eq_of_getLsbD_eq
  intro i hi
  rw [BitVec.getLsbD_and]
  by_cases h0 : i = 0
  ·subst h0
   cases x.getLsbD 0 <;> simp
  ·have : (1#32).getLsbD i = false := by
    rw [BitVec.getLsbD_one]
    simp [h0]
   rw [this, Bool.and_false]
   split
   ·exact this.symm
   ·simp
 rw [h]
 cases x.getLsbD 0
 ·simp
 ·simp only [if_true]
  congr 1
  rw [show -(1#32) = BitVec.allOnes 32 by decide, BitVec.and_allOnes]
theorem neg_wv (x : BitVec 32) : IntKind.u32.wrap (-(wv x)) = wv (-x) := by
 rw [IntKind.wrap_u32]
 unfold wv
 rw [BitVec.toNat_neg]
 have := x.isLt
 omega
/-- A row of the table. -/
def rowC (i : Nat) : BitVec 32 := stepN polyW 8 (b32 i)
/-- One byte more. -/
def byteC (x : BitVec 32) (z : Nat) : BitVec 32 := stepN polyW 8 (x ^^^ b32 z)
theorem byteC_row (x : BitVec 32) (z : Nat) (hz : z < 256) : byteC x z = (x >>> 8) ^^^ rowC ((x.toNat % 256) ^^^ z) := by
 unfold byteC rowC
 have hx : x = (x &&& 255#32) ^^^ (x &&& ~~~(255#32)) := by
  apply BitVec.eq_of_getLsbD_eq
  intro i hi
  simp only [BitVec.getLsbD_xor, BitVec.getLsbD_and, BitVec.getLsbD_not, hi, decide_true, Bool.true_and]
  cases x.getLsbD i <;> cases (255#32).getLsbD i <;> rfl
 have hhi : stepN polyW 8 (x &&& ~~~(255#32)) = x >>> 8 := by
  rw [stepN_high]
  ·apply BitVec.eq_of_getLsbD_eq
   intro i hi
   rw [BitVec.getLsbD_ushiftRight, BitVec.getLsbD_ushiftRight, BitVec.getLsbD_and, BitVec.getLsbD_not]
   by_cases h : 8 + i < 32
   ·have : (255#32).getLsbD (8 + i) = false := by
     have : ∀ j : Fin 24, (255#32).getLsbD (8 + j.val) = false := by decide
     exact this ⟨i, by omega⟩
    rw [this]
    simp [h]
   ·have : x.getLsbD (8 + i) = false := BitVec.getLsbD_of_ge _ _ (by omega)
    rw [this, Bool.false_and]
  ·intro i hi
   rw [BitVec.getLsbD_and, BitVec.getLsbD_not]
   have : (255#32).getLsbD i = true := by
    have : ∀ j : Fin 8, (255#32).getLsbD j.val = true := by decide
    exact this ⟨i, hi⟩
   rw [this]
   simp
 have hlo : b32 ((x.toNat % 256) ^^^ z) = (x &&& 255#32) ^^^ b32 z := by
  unfold b32
  apply BitVec.eq_of_toNat_eq
  have e : x.toNat &&& 255 = x.toNat % 256 := by
   show x.toNat &&& 255 = x.toNat % 2 ^ 8
   rw [← Nat.and_two_pow_sub_one_eq_mod]
  have e2 : (x &&& 255#32).toNat = x.toNat % 256 := by rw [BitVec.toNat_and]; exact e
  rw [BitVec.toNat_xor, e2, BitVec.toNat_ofNat, BitVec.toNat_ofNat]
  have h1 : (x.toNat % 256) ^^^ z < 256 := Nat.xor_lt_two_pow (n := 8) (by omega) hz
  rw [Nat.mod_eq_of_lt (show (x.toNat % 256) ^^^ z < 2 ^ 32 by omega), Nat.mod_eq_of_lt (show z < 2 ^ 32 by omega)]
 rw [hlo, ← hhi, ← stepN_xor]
 congr 1
 rw [← BitVec.xor_assoc, BitVec.xor_comm (x &&& ~~~(255#32)), ← hx]
/-- The sum of bytes. -/
def crcFrom (x : BitVec 32) (b : List Int) : BitVec 32 := b.foldl (fun x z => byteC x z.toNat) x
def crcB (b : List Int) : BitVec 32 := ~~~(crcFrom (~~~(0#32)) b)
theorem crcFrom_snoc (x : BitVec 32) (b : List Int) (z : Int) : crcFrom x (b ++ [z]) = byteC (crcFrom x b) z.toNat := by simp [crcFrom]
end Go.Proofs.YtffalfacakdhkaaGreatDoor
