/-
  bitio's reader: bytes as one number, the lowest bits first.
-/
import Derived.Test.YthmcdohndckniaaGreatDoorMem
import Derived.Laws.Bits64b
import Derived.Laws.BitsLemmas
namespace Go.Proofs.YthmcdohndckniaaGreatDoor
open Go.RowKit
set_option linter.unusedVariables false

def Bytes (bs : List Int) : Prop := ∀ z ∈ bs, 0 ≤ z ∧ z < 256
def BClonePost (bs : List Int) (n : Nat) (w : World) (e : Ending) (w' : World) : Prop :=
  ∃ A c, e = .returned (.slice A n c) ∧ w'.ownsRow w.heap.size 5 1 (.slice A n c) n (bs.map (Value.int .u8)) ∧ Below w.heap.size w w'

set_option maxHeartbeats 800000 in
theorem bclone (bs : List Int) (A : Option Addr) (n cap : Nat) (w : World) (h : RdI .u8 w A n bs) (hn : n ≤ 1000000000) :
    Calls Tryz.prog 63 #[.slice A n cap] w (BClonePost bs n w) := by
  have H := Lib.hid h
  have hl := Lib.hid h.1
  clear h
  have hnil := Lib.run_eql_slice_nil (P := Tryz.prog)
  cases A with
  | none =>
    have h0 : n = 0 := by
      rcases Nat.eq_zero_or_pos n with h | h
      · exact h
      · obtain ⟨_, _, he, _⟩ := H.out.2 h; cases he
    subst h0
    have hb : bs = [] := List.eq_nil_of_length_eq_zero hl.out
    subst hb
    go_enter Tryz.func63, Tryz.ntmps63
    go_wp2
    go_ret
    exact ⟨_, _, rfl, World.ownsRow_nil _ _ _ _, Below.refl _ _⟩
  | some x =>
    go_enter Tryz.func63, Tryz.ntmps63
    go_wp2_with (refine app_src rfl (.tmp 5) (.tmp 6) 22 rfl w.heap.size 5 _ 1 1 Tryz.underlying22 infoByte rfl (by omega) _ 0 [] rfl (World.ownsRow_made w #[] 0 (Nat.le_refl _) (by unfold maxLen; omega) rfl) _ n (bs.map (Value.int .u8)) rfl ((Src.of_rd H.out).alloc _) (by simp [Value.oneCell']) (by omega) (by omega) (by simp) ?_; intro v' w1 ho hg hor; have HO := Lib.hid ho; have HG := Lib.hid hg; clear ho hg hor)
    go_ret
    obtain ⟨A', c', rfl, _⟩ := own_slice HO.out
    rw [Nat.zero_add]
    refine ⟨A', c', rfl, ?_, ?_⟩
    · have := HO.out
      rwa [Nat.zero_add, List.nil_append] at this
    · exact bl_ag (Below.refl _ _) HG.out

/-- Bytes as one number, the lowest first. -/
def leNum : List Int → Nat
  | [] => 0
  | z :: zs => z.toNat + 256 * leNum zs
theorem leNum_lt {l : List Int} (h : Bytes l) : leNum l < 256 ^ l.length := by
  induction l with
  | nil => simp [leNum]
  | cons z l ih =>
    have h1 := h z (by simp)
    have h2 := ih (fun x hx => h x (by simp [hx]))
    simp only [leNum, List.length_cons, Nat.pow_succ]
    omega
theorem leNum_snoc (l : List Int) (z : Int) : leNum (l ++ [z]) = leNum l + z.toNat * 256 ^ l.length := by
  induction l with
  | nil => simp [leNum]
  | cons x l ih =>
    simp only [List.cons_append, leNum, ih, List.length_cons, Nat.pow_succ]
    rw [Nat.mul_add, Nat.add_assoc, show 256 * (z.toNat * 256 ^ l.length) = z.toNat * (256 ^ l.length * 256) from by rw [← Nat.mul_assoc, Nat.mul_comm 256, Nat.mul_assoc, Nat.mul_comm 256]]
theorem leNum_step {l : List Int} {k : Nat} (hk : k < l.length) (h : Bytes l) : leNum (l.take (k + 1)) = leNum (l.take k) + (l.getD k 0).toNat * 256 ^ k := by
  rw [List.take_add_one, List.getElem?_eq_getElem hk]
  simp only [Option.toList]
  rw [leNum_snoc, List.length_take, Nat.min_eq_left (by omega)]
  simp [hk]
theorem pow256 (k : Nat) : 256 ^ k = 2 ^ (8 * k) := by rw [Nat.pow_mul]
theorem or_step (v z k : Nat) (hv : v < 256 ^ k) (hz : z < 256) (hk : k ≤ 4) : bits .or .u64 (v : Int) (IntKind.u64.wrap ((z : Int) * 2 ^ (8 * k))) = ((v + z * 256 ^ k : Nat) : Int) := by
  rw [pow256] at hv ⊢
  have hb : 2 ^ (8 * k) ≤ 2 ^ 32 := Nat.pow_le_pow_right (by omega) (by omega)
  have hz2 : z * 2 ^ (8 * k) ≤ 255 * 2 ^ 32 := Nat.mul_le_mul (by omega) hb
  have e : (z : Int) * 2 ^ (8 * k) = ((z * 2 ^ (8 * k) : Nat) : Int) := by push_cast; rfl
  have e2 : IntKind.u64.wrap ((z * 2 ^ (8 * k) : Nat) : Int) = ((z * 2 ^ (8 * k) : Nat) : Int) := by rw [IntKind.wrap_u64]; omega
  rw [e, e2, bits_or_u64_nat _ _ (by omega) (by omega)]
  have h3 := Nat.shiftLeft_add_eq_or_of_lt hv z
  rw [Nat.shiftLeft_eq] at h3
  rw [Nat.or_comm, ← h3, Nat.add_comm]
theorem and7 (p : Nat) (h : p < 9223372036854775808) : bits .and .i64 (p : Int) 7 = ((p % 8 : Nat) : Int) := by
  have h := bits_mask .i64 63 (by decide) (fun n h0 h1 => IntWalk.i64_in n (by omega)) 3 (by decide) (p : Int) (by omega) (by omega)
  have e : ((2 : Int) ^ 3 - 1) = 7 := by decide
  have e2 : ((2 : Int) ^ 3) = 8 := by decide
  rw [e, e2] at h
  rw [h]
  omega
/-- n bits, from bit p on. -/
def bitsAt (bs : List Int) (p n : Nat) : Nat := leNum bs / 2 ^ p % 2 ^ n
theorem leNum_drop (bs : List Int) (hB : Bytes bs) : ∀ f, leNum (bs.drop f) = leNum bs / 256 ^ f := by
  induction bs with
  | nil => intro f; simp [leNum]
  | cons z bs ih =>
    intro f
    cases f with
    | zero => simp
    | succ f =>
      have h1 := hB z (by simp)
      rw [List.drop_succ_cons, ih (fun x hx => hB x (by simp [hx])), Nat.pow_succ, Nat.mul_comm, ← Nat.div_div_eq_div_mul]
      congr 1
      simp only [leNum]
      omega
theorem leNum_take (bs : List Int) (hB : Bytes bs) : ∀ m, leNum (bs.take m) = leNum bs % 256 ^ m := by
  induction bs with
  | nil => intro m; simp [leNum]
  | cons z bs ih =>
    intro m
    cases m with
    | zero => simp [leNum, Nat.mod_one]
    | succ m =>
      have h1 := hB z (by simp)
      rw [List.take_succ_cons]
      simp only [leNum]
      rw [ih (fun x hx => hB x (by simp [hx])), Nat.pow_succ, Nat.mul_comm (256 ^ m), Nat.mod_mul]
      have e1 : (z.toNat + 256 * leNum bs) % 256 = z.toNat := by omega
      have e2 : (z.toNat + 256 * leNum bs) / 256 = leNum bs := by omega
      rw [e1, e2]
theorem cut_pow (X a q n : Nat) (h : q + n ≤ a) : X % 2 ^ a / 2 ^ q % 2 ^ n = X / 2 ^ q % 2 ^ n := by
  apply Nat.eq_of_testBit_eq
  intro i
  simp only [Nat.testBit_mod_two_pow, Nat.testBit_div_two_pow]
  by_cases hi : i < n
  · have : i + q < a := by omega
    simp [hi, this]
  · simp [hi]
theorem bits_cut (bs : List Int) (p n : Nat) (hB : Bytes bs) : bitsAt bs p n = leNum ((bs.drop (p / 8)).take ((p + n + 7) / 8 - p / 8)) / 2 ^ (p % 8) % 2 ^ n := by
  rw [leNum_take _ (fun z hz => hB z (List.mem_of_mem_drop hz)), leNum_drop bs hB, pow256, pow256, cut_pow _ _ _ _ (by omega), Nat.div_div_eq_div_mul, ← Nat.pow_add]
  unfold bitsAt
  rw [show 8 * (p / 8) + p % 8 = p from by omega]
theorem get_num (v q n : Nat) (hv : v < 2 ^ 40) (hn : n ≤ 32) : bits .and .u64 ((v : Int) / 2 ^ q) (IntKind.u64.wrap (IntKind.u64.wrap (2 ^ n) - 1)) % 4294967296 = ((v / 2 ^ q % 2 ^ n : Nat) : Int) := by
  have hb : 2 ^ n ≤ 2 ^ 32 := Nat.pow_le_pow_right (by omega) hn
  have hpos : 0 < 2 ^ n := Nat.two_pow_pos n
  have e0 : (2 : Int) ^ n = ((2 ^ n : Nat) : Int) := by push_cast; rfl
  have e1 : IntKind.u64.wrap (2 ^ n) = 2 ^ n := by rw [IntKind.wrap_u64, e0]; omega
  have e2 : IntKind.u64.wrap (2 ^ n - 1) = 2 ^ n - 1 := by rw [IntKind.wrap_u64, e0]; omega
  have e3 : (v : Int) / 2 ^ q = ((v / 2 ^ q : Nat) : Int) := by push_cast; rfl
  have hle : v / 2 ^ q ≤ v := Nat.div_le_self _ _
  have hlt63 : v / 2 ^ q < 2 ^ 63 := by omega
  have h := bits_mask .u64 63 (by decide) (fun n h0 h1 => by rw [IntKind.wrap_u64]; omega) n (by omega) ((v / 2 ^ q : Nat) : Int) (Int.natCast_nonneg _) (by exact_mod_cast hlt63)
  rw [e1, e2, e3, h, e0]
  have hlt : v / 2 ^ q % 2 ^ n < 2 ^ n := Nat.mod_lt _ hpos
  rw [← Int.natCast_emod]
  omega
theorem rd_else {w : World} {A : Option Addr} {n : Nat} {zs : List Int} {r : Nat} {t : TypeId} {b1 : Bool} {A1 : Option Addr} {n1 c1 : Nat} {z : Int} (h : RdI .u8 w A n zs) (hb : Blk w r t #[.bool b1, .slice A1 n1 c1, .int .i64 z]) (o : Nat) (u : Value) :
    RdI .u8 (w.setCell ⟨r, o, none⟩ u) A n zs := by
  refine ⟨h.1, fun hn => ?_⟩
  obtain ⟨b, off, e, hlt, hc⟩ := h.2 hn
  refine ⟨b, off, e, by simpa using hlt, fun j hj => ?_⟩
  have hne : b ≠ r := by
    rintro rfl
    have h1 := hc j hj
    rw [hb.cellq] at h1
    rcases hoj : off + j with _ | _ | _ | m
    · rw [hoj] at h1; simp at h1
    · rw [hoj] at h1; simp at h1
    · rw [hoj] at h1; simp at h1
    · rw [hoj] at h1; simp at h1
  rw [← hc j hj]
  exact World.cell?_of_block (a := ⟨b, off + j, none⟩) (Below.heap_setCell w _ u b hne)
def G1 (bs : List Int) (f m : Nat) (w : World) (v i : Value) (wr : World) : Prop :=
  ∃ k : Nat, k ≤ m ∧ i = .int .i64 k ∧ v = .int .u64 (leNum ((bs.drop f).take k)) ∧ wr = w

end Go.Proofs.YthmcdohndckniaaGreatDoor
