/-
  bitio's reader: bytes as one number, the lowest bits first.
-/
import Derived.Test.YtlhaehefhhcgaaaDoorMem
import Derived.Laws.Bits64b
import Derived.Laws.BitsLemmas
namespace Go.Proofs.YtlhaehefhhcgaaaDoor
open Go.RowKit
set_option linter.unusedVariables false

def Bytes (bs : List Int) : Prop := ∀ z ∈ bs, 0 ≤ z ∧ z < 256
/-- A reader of bytes bs that stands at bit 'p' lies in block r. -/
def RdrOk (w : World) (r : Nat) (bs : List Int) (p : Nat) : Prop :=
  ∃ A c, Blk w r 103 #[.bool true, .slice A bs.length c, .int .i64 p] ∧ RdI .u8 w A bs.length bs ∧ (0 < bs.length → ∃ b off, A = some ⟨b, off, none⟩ ∧ b < r)
theorem RdrOk.below {w w' : World} {r p : Nat} {bs : List Int} (h : RdrOk w r bs p) (hb : Below w.heap.size w w') : RdrOk w' r bs p := by
  obtain ⟨A, c, h1, h2, h3⟩ := h
  exact ⟨A, c, h1.below hb h1.lt, h2.below hb, h3⟩

def BClonePost (bs : List Int) (n : Nat) (w : World) (e : Ending) (w' : World) : Prop :=
  ∃ A c, e = .returned (.slice A n c) ∧ w'.ownsRow w.heap.size 5 1 (.slice A n c) n (bs.map (Value.int .u8)) ∧ Below w.heap.size w w'

set_option maxHeartbeats 800000 in
theorem bclone (bs : List Int) (A : Option Addr) (n cap : Nat) (w : World) (h : RdI .u8 w A n bs) (hn : n ≤ 1000000000) :
    Calls Tryd.prog 51 #[.slice A n cap] w (BClonePost bs n w) := by
  have H := Lib.hid h
  have hl := Lib.hid h.1
  clear h
  have hnil := Lib.run_eql_slice_nil (P := Tryd.prog)
  cases A with
  | none =>
    have h0 : n = 0 := by
      rcases Nat.eq_zero_or_pos n with h | h
      · exact h
      · obtain ⟨_, _, he, _⟩ := H.out.2 h; cases he
    subst h0
    have hb : bs = [] := List.eq_nil_of_length_eq_zero hl.out
    subst hb
    go_enter Tryd.func51, Tryd.ntmps51
    go_wp2
    go_ret
    exact ⟨_, _, rfl, World.ownsRow_nil _ _ _ _, Below.refl _ _⟩
  | some x =>
    go_enter Tryd.func51, Tryd.ntmps51
    go_wp2_with (refine app_src rfl (.tmp 5) (.tmp 6) 22 rfl w.heap.size 5 _ 1 1 Tryd.underlying22 infoByte rfl (by omega) _ 0 [] rfl (World.ownsRow_made w #[] 0 (Nat.le_refl _) (by unfold maxLen; omega) rfl) _ n (bs.map (Value.int .u8)) rfl ((Src.of_rd H.out).alloc _) (by simp [Value.oneCell']) (by omega) (by omega) (by simp) ?_; intro v' w1 ho hg hor; have HO := Lib.hid ho; have HG := Lib.hid hg; clear ho hg hor)
    go_ret
    obtain ⟨A', c', rfl, _⟩ := own_slice HO.out
    rw [Nat.zero_add]
    refine ⟨A', c', rfl, ?_, ?_⟩
    · have := HO.out
      rwa [Nat.zero_add, List.nil_append] at this
    · exact bl_ag (Below.refl _ _) HG.out

def NewRPost (bs : List Int) (w : World) (e : Ending) (w' : World) : Prop :=
  ∃ r, e = .returned (.pointer (some ⟨r, 0, none⟩)) ∧ w.heap.size ≤ r ∧ RdrOk w' r bs 0 ∧ Below w.heap.size w w'

set_option maxHeartbeats 800000 in
theorem newReader_any (bs : List Int) (A : Option Addr) (n cap : Nat) (w : World) (h : RdI .u8 w A n bs) (hn : n ≤ 1000000000) :
    Calls Tryd.prog 26 #[.slice A n cap] w (NewRPost bs w) := by
  have H := Lib.hid h
  have hl := Lib.hid h.1
  clear h
  go_enter Tryd.func26, Tryd.ntmps26
  go_wp2_with fail
  refine (bclone bs A n cap w H.out hn).mono ?_
  rintro e w1 ⟨A1, c1, rfl, ho, hb⟩
  have HO := Lib.hid ho
  have HB := Lib.hid hb
  clear ho hb
  go_wp2
  go_ret
  refine ⟨w1.heap.size, rfl, HB.out.size, ⟨A1, c1, ?_, ?_, ?_⟩, HB.out.alloc HB.out.size _⟩
  · rw [hl.out]; exact Blk.made _ _ _
  · rw [hl.out]; exact (RdI.of_own HO.out).below ((Below.refl _ _).alloc (Nat.le_refl _) _)
  · intro hpos
    rw [hl.out] at hpos
    obtain ⟨b, off, e, hlt, _⟩ := (RdI.of_own HO.out).2 hpos
    exact ⟨b, off, e, hlt⟩

set_option maxHeartbeats 800000 in
theorem at_any (r p : Nat) (bs : List Int) (w : World) (h : RdrOk w r bs p) :
    Calls Tryd.prog 33 #[.pointer (some ⟨r, 0, none⟩)] w fun e w' => e = .returned (.int .i64 p) ∧ w = w' := by
  obtain ⟨A, c, hb, hr, _⟩ := h
  have hc := hb.cell (i := 2) (v := .int .i64 p) rfl
  clear hb hr
  go_enter Tryd.func33, Tryd.ntmps33
  go_wp2
  go_ret
  exact ⟨rfl, rfl⟩

set_option maxHeartbeats 800000 in
theorem left_any (r p : Nat) (bs : List Int) (w : World) (h : RdrOk w r bs p) (hn : bs.length ≤ 1000000000) (hp : p ≤ 8 * bs.length) :
    Calls Tryd.prog 55 #[.pointer (some ⟨r, 0, none⟩)] w fun e w' => e = .returned (.int .i64 (8 * bs.length - p)) ∧ Below w.heap.size w w' ∧ w.heap = w'.heap := by
  obtain ⟨A, c, hb, hr, _⟩ := h
  have hc := hb.cell (i := 2) (v := .int .i64 p) rfl
  have hc1 := hb.cell (i := 1) (v := .slice A bs.length c) rfl
  clear hb hr
  go_enter Tryd.func55, Tryd.ntmps55
  go_wp2
  refine wp_region_qs (fun _ w' => w'.cell? ⟨r, 1, none⟩ = some (.slice A bs.length c) ∧ w'.cell? ⟨r, 2, none⟩ = some (.int .i64 p)) [(0, some 0), (1, some 0), (2, some 0), (3, some 0), (4, some 0), (5, some 0), (6, some 0), (7, some 0), (8, some 0), (9, some 0), (10, some 0), (11, some 0)] (by kernel_rfl) (by kernel_rfl) (by kernel_rfl) (by kernel_rfl) (by kernel_rfl) (fun _ _ _ _ _ h => h) ⟨hc1, hc⟩ ?_
  simp only [List.map_cons, List.map_nil, List.getD_cons_succ, List.getD_cons_zero]
  (repeat (first | (refine qs_now (v := ?_) (by rfl) ?_ ?_; rotate_left 1; (· (intro w' hS; go_simp; (try (simp only [↓IntWalk.iteOmega]; go_simp)); (try simp (disch := omega) only [IntWalk.i64_in]); try with_reducible rfl)); simp only [Act.put, List.setIfInBounds_toArray, List.set_cons_zero, List.set_cons_succ]) | (refine qs_run (v := ?_) (by rfl) ?_ ?_; rotate_left 1; (· (intro j w' hS; go_simp; (try (simp only [↓IntWalk.iteOmega]; go_simp)); (try simp (disch := omega) only [IntWalk.i64_in]); try with_reducible rfl)); simp only [Act.put, List.setIfInBounds_toArray, List.set_cons_zero, List.set_cons_succ]) | (refine qs_skip (by rfl) ?_; simp only [Act.put, List.setIfInBounds_toArray, List.set_cons_zero, List.set_cons_succ])))
  refine qs_nil ?_
  go_wp2
  go_ret
  exact ⟨rfl, (Below.refl _ _).drew, rfl⟩

/-- Bytes as one number, the lowest first. -/
def leNum : List Int → Nat
  | [] => 0
  | z :: zs => z.toNat + 256 * leNum zs
theorem leNum_lt {l : List Int} (h : Bytes l) : leNum l < 256 ^ l.length := by
  induction l with
  | nil => simp [leNum]
  | cons z l ih =>
    have h1 := h z (by simp)
    have h2 := ih (fun x hx => h x (by simp [hx]))
    simp only [leNum, List.length_cons, Nat.pow_succ]
    omega
theorem leNum_snoc (l : List Int) (z : Int) : leNum (l ++ [z]) = leNum l + z.toNat * 256 ^ l.length := by
  induction l with
  | nil => simp [leNum]
  | cons x l ih =>
    simp only [List.cons_append, leNum, ih, List.length_cons, Nat.pow_succ]
    rw [Nat.mul_add, Nat.add_assoc, show 256 * (z.toNat * 256 ^ l.length) = z.toNat * (256 ^ l.length * 256) from by rw [← Nat.mul_assoc, Nat.mul_comm 256, Nat.mul_assoc, Nat.mul_comm 256]]
theorem leNum_step {l : List Int} {k : Nat} (hk : k < l.length) (h : Bytes l) : leNum (l.take (k + 1)) = leNum (l.take k) + (l.getD k 0).toNat * 256 ^ k := by
  rw [List.take_add_one, List.getElem?_eq_getElem hk]
  simp only [Option.toList]
  rw [leNum_snoc, List.length_take, Nat.min_eq_left (by omega)]
  simp [hk]
theorem pow256 (k : Nat) : 256 ^ k = 2 ^ (8 * k) := by rw [Nat.pow_mul]
theorem or_step (v z k : Nat) (hv : v < 256 ^ k) (hz : z < 256) (hk : k ≤ 4) : bits .or .u64 (v : Int) (IntKind.u64.wrap ((z : Int) * 2 ^ (8 * k))) = ((v + z * 256 ^ k : Nat) : Int) := by
  rw [pow256] at hv ⊢
  have hb : 2 ^ (8 * k) ≤ 2 ^ 32 := Nat.pow_le_pow_right (by omega) (by omega)
  have hz2 : z * 2 ^ (8 * k) ≤ 255 * 2 ^ 32 := Nat.mul_le_mul (by omega) hb
  have e : (z : Int) * 2 ^ (8 * k) = ((z * 2 ^ (8 * k) : Nat) : Int) := by push_cast; rfl
  have e2 : IntKind.u64.wrap ((z * 2 ^ (8 * k) : Nat) : Int) = ((z * 2 ^ (8 * k) : Nat) : Int) := by rw [IntKind.wrap_u64]; omega
  rw [e, e2, bits_or_u64_nat _ _ (by omega) (by omega)]
  have h3 := Nat.shiftLeft_add_eq_or_of_lt hv z
  rw [Nat.shiftLeft_eq] at h3
  rw [Nat.or_comm, ← h3, Nat.add_comm]
theorem and7 (p : Nat) (h : p < 9223372036854775808) : bits .and .i64 (p : Int) 7 = ((p % 8 : Nat) : Int) := by
  have h := bits_mask .i64 63 (by decide) (fun n h0 h1 => IntWalk.i64_in n (by omega)) 3 (by decide) (p : Int) (by omega) (by omega)
  have e : ((2 : Int) ^ 3 - 1) = 7 := by decide
  have e2 : ((2 : Int) ^ 3) = 8 := by decide
  rw [e, e2] at h
  rw [h]
  omega
/-- n bits, from bit p on. -/
def bitsAt (bs : List Int) (p n : Nat) : Nat := leNum bs / 2 ^ p % 2 ^ n
theorem leNum_drop (bs : List Int) (hB : Bytes bs) : ∀ f, leNum (bs.drop f) = leNum bs / 256 ^ f := by
  induction bs with
  | nil => intro f; simp [leNum]
  | cons z bs ih =>
    intro f
    cases f with
    | zero => simp
    | succ f =>
      have h1 := hB z (by simp)
      rw [List.drop_succ_cons, ih (fun x hx => hB x (by simp [hx])), Nat.pow_succ, Nat.mul_comm, ← Nat.div_div_eq_div_mul]
      congr 1
      simp only [leNum]
      omega
theorem leNum_take (bs : List Int) (hB : Bytes bs) : ∀ m, leNum (bs.take m) = leNum bs % 256 ^ m := by
  induction bs with
  | nil => intro m; simp [leNum]
  | cons z bs ih =>
    intro m
    cases m with
    | zero => simp [leNum, Nat.mod_one]
    | succ m =>
      have h1 := hB z (by simp)
      rw [List.take_succ_cons]
      simp only [leNum]
      rw [ih (fun x hx => hB x (by simp [hx])), Nat.pow_succ, Nat.mul_comm (256 ^ m), Nat.mod_mul]
      have e1 : (z.toNat + 256 * leNum bs) % 256 = z.toNat := by omega
      have e2 : (z.toNat + 256 * leNum bs) / 256 = leNum bs := by omega
      rw [e1, e2]
theorem cut_pow (X a q n : Nat) (h : q + n ≤ a) : X % 2 ^ a / 2 ^ q % 2 ^ n = X / 2 ^ q % 2 ^ n := by
  apply Nat.eq_of_testBit_eq
  intro i
  simp only [Nat.testBit_mod_two_pow, Nat.testBit_div_two_pow]
  by_cases hi : i < n
  · have : i + q < a := by omega
    simp [hi, this]
  · simp [hi]
theorem bits_cut (bs : List Int) (p n : Nat) (hB : Bytes bs) : bitsAt bs p n = leNum ((bs.drop (p / 8)).take ((p + n + 7) / 8 - p / 8)) / 2 ^ (p % 8) % 2 ^ n := by
  rw [leNum_take _ (fun z hz => hB z (List.mem_of_mem_drop hz)), leNum_drop bs hB, pow256, pow256, cut_pow _ _ _ _ (by omega), Nat.div_div_eq_div_mul, ← Nat.pow_add]
  unfold bitsAt
  rw [show 8 * (p / 8) + p % 8 = p from by omega]
theorem get_num (v q n : Nat) (hv : v < 2 ^ 40) (hn : n ≤ 32) : bits .and .u64 ((v : Int) / 2 ^ q) (IntKind.u64.wrap (IntKind.u64.wrap (2 ^ n) - 1)) % 4294967296 = ((v / 2 ^ q % 2 ^ n : Nat) : Int) := by
  have hb : 2 ^ n ≤ 2 ^ 32 := Nat.pow_le_pow_right (by omega) hn
  have hpos : 0 < 2 ^ n := Nat.two_pow_pos n
  have e0 : (2 : Int) ^ n = ((2 ^ n : Nat) : Int) := by push_cast; rfl
  have e1 : IntKind.u64.wrap (2 ^ n) = 2 ^ n := by rw [IntKind.wrap_u64, e0]; omega
  have e2 : IntKind.u64.wrap (2 ^ n - 1) = 2 ^ n - 1 := by rw [IntKind.wrap_u64, e0]; omega
  have e3 : (v : Int) / 2 ^ q = ((v / 2 ^ q : Nat) : Int) := by push_cast; rfl
  have hle : v / 2 ^ q ≤ v := Nat.div_le_self _ _
  have hlt63 : v / 2 ^ q < 2 ^ 63 := by omega
  have h := bits_mask .u64 63 (by decide) (fun n h0 h1 => by rw [IntKind.wrap_u64]; omega) n (by omega) ((v / 2 ^ q : Nat) : Int) (Int.natCast_nonneg _) (by exact_mod_cast hlt63)
  rw [e1, e2, e3, h, e0]
  have hlt : v / 2 ^ q % 2 ^ n < 2 ^ n := Nat.mod_lt _ hpos
  rw [← Int.natCast_emod]
  omega
theorem rd_else {w : World} {A : Option Addr} {n : Nat} {zs : List Int} {r : Nat} {t : TypeId} {b1 : Bool} {A1 : Option Addr} {n1 c1 : Nat} {z : Int} (h : RdI .u8 w A n zs) (hb : Blk w r t #[.bool b1, .slice A1 n1 c1, .int .i64 z]) (o : Nat) (u : Value) :
    RdI .u8 (w.setCell ⟨r, o, none⟩ u) A n zs := by
  refine ⟨h.1, fun hn => ?_⟩
  obtain ⟨b, off, e, hlt, hc⟩ := h.2 hn
  refine ⟨b, off, e, by simpa using hlt, fun j hj => ?_⟩
  have hne : b ≠ r := by
    rintro rfl
    have h1 := hc j hj
    rw [hb.cellq] at h1
    rcases hoj : off + j with _ | _ | _ | m
    · rw [hoj] at h1; simp at h1
    · rw [hoj] at h1; simp at h1
    · rw [hoj] at h1; simp at h1
    · rw [hoj] at h1; simp at h1
  rw [← hc j hj]
  exact World.cell?_of_block (a := ⟨b, off + j, none⟩) (Below.heap_setCell w _ u b hne)
def GetPost (bs : List Int) (r p n : Nat) (w : World) (e : Ending) (w' : World) : Prop :=
  (8 * bs.length < p + n ∧ e = .returned (.tuple #[.int .u32 0, .bool false]) ∧ RdrOk w' r bs p ∧ w.grownBy w' (some r)) ∨
  (p + n ≤ 8 * bs.length ∧ e = .returned (.tuple #[.int .u32 (bitsAt bs p n), .bool true]) ∧ RdrOk w' r bs (p + n) ∧ w.grownBy w' (some r))
def G1 (bs : List Int) (f m : Nat) (w : World) (v i : Value) (wr : World) : Prop :=
  ∃ k : Nat, k ≤ m ∧ i = .int .i64 k ∧ v = .int .u64 (leNum ((bs.drop f).take k)) ∧ wr = w

set_option maxHeartbeats 1600000 in
theorem get_any (bs : List Int) (r p n : Nat) (w : World) (h : RdrOk w r bs p) (hB : Bytes bs) (hl : bs.length ≤ 1000000000) (hp : p ≤ 8 * bs.length) (hn : n ≤ 32) :
    Calls Tryd.prog 53 #[.pointer (some ⟨r, 0, none⟩), .int .i64 n] w (GetPost bs r p n w) := by
  have H := Lib.hid h
  obtain ⟨A, c, hb, hr, hlow⟩ := h
  have HLow := Lib.hid hlow
  clear hlow
  have HB := Lib.hid hb
  have HR := Lib.hid hr
  have hc0 := hb.cell (i := 0) (v := .bool true) rfl
  clear hb hr
  have HBy := Lib.hid hB
  clear hB
  have h1 : ¬ (n : Int) < 0 := by omega
  have h2 : ¬ (32 : Int) < n := by omega
  by_cases hbig : 8 * bs.length < p + n
  · have hbI : 8 * (bs.length : Int) - p < n := by omega
    go_enter Tryd.func53, Tryd.ntmps53
    go_wp2_with fail
    refine (left_any r p bs w H.out hl hp).mono ?_
    rintro e w1 ⟨rfl, hb1, hh1⟩
    have HB1 := Lib.hid hb1
    clear hb1 hh1
    go_wp2
    go_ret2
    exact .inl ⟨hbig, rfl, H.out.below HB1.out, ⟨HB1.out.os, HB1.out.tape, HB1.out.output, HB1.out.size, fun k hk _ => HB1.out.block k hk⟩⟩
  · have hbI : ¬ 8 * (bs.length : Int) - p < n := by omega
    go_enter Tryd.func53, Tryd.ntmps53
    go_wp2_with fail
    refine (left_any r p bs w H.out hl hp).mono ?_
    rintro e w1 ⟨rfl, hb1, hh1⟩
    have HB1 := Lib.hid hb1
    have hbl : Blk w1 r 103 _ := HB.out.below hb1 HB.out.lt
    have HBl := Lib.hid hbl
    have hc2 := hbl.cell (i := 2) (v := .int .i64 p) rfl
    clear hb1 hh1 hc0 hbl
    go_wp2
    refine wp_region_qs (fun _ w' => w'.cell? ⟨r, 2, none⟩ = some (.int .i64 p)) [(0, some 0), (1, some 0), (2, some 0), (3, some 0), (4, some 0), (5, some 0), (6, some 0), (7, some 0), (8, some 0), (9, some 0), (10, some 0), (11, some 0), (12, some 0), (13, some 0), (14, some 0)] (by kernel_rfl) (by kernel_rfl) (by kernel_rfl) (by kernel_rfl) (by kernel_rfl) (fun _ _ _ _ _ h => h) hc2 ?_
    simp only [List.map_cons, List.map_nil, List.getD_cons_succ, List.getD_cons_zero]
    (repeat (first | (refine qs_now (v := ?_) (by rfl) ?_ ?_; rotate_left 1; (· (intro w' hS; go_simp; (try (simp only [↓IntWalk.iteOmega]; go_simp)); (try simp (disch := omega) only [IntWalk.i64_in]); try with_reducible rfl)); simp only [Act.put, List.setIfInBounds_toArray, List.set_cons_zero, List.set_cons_succ]) | (refine qs_run (v := ?_) (by rfl) ?_ ?_; rotate_left 1; (· (intro j w' hS; go_simp; (try (simp only [↓IntWalk.iteOmega]; go_simp)); (try simp (disch := omega) only [IntWalk.i64_in]); try with_reducible rfl)); simp only [Act.put, List.setIfInBounds_toArray, List.set_cons_zero, List.set_cons_succ]) | (refine qs_skip (by rfl) ?_; simp only [Act.put, List.setIfInBounds_toArray, List.set_cons_zero, List.set_cons_succ])))
    refine qs_nil ?_
    go_wp2
    obtain ⟨w2, hw2⟩ : ∃ w2, w2 = w1.drew := ⟨_, rfl⟩
    rw [← hw2]
    have HB2 := Lib.hid (show Below w.heap.size w w2 by rw [hw2]; exact HB1.out.drew)
    have HC2 := Lib.hid (show Blk w2 r 103 _ by rw [hw2]; exact HBl.out.drew)
    clear hw2 HBl HB1 hc2
    go_loopw [8, 49] (G1 bs (p / 8) ((p + n + 7) / 8 - p / 8) w2) (fun _ i _ => 10 - (intOf i).toNat)
    case atStart => exact ⟨0, by omega, rfl, by simp [leNum], rfl⟩
    case round =>
      obtain ⟨k, hk, rfl, rfl, rfl⟩ := hrel
      by_cases hlt : k < (p + n + 7) / 8 - p / 8
      · have hltI : (k : Int) < (p + n + 7 : Int) / 8 - (p : Int) / 8 := by omega
        have hix : (p / 8 + k) < bs.length := by omega
        have hc1 := HC2.out.cell (i := 1) (v := .slice A bs.length c) rfl
        obtain ⟨b, off, rfl, hblt, hz⟩ := HR.out.cell HB2.out hix
        have hz2 := HBy.out _ (show bs.getD (p / 8 + k) 0 ∈ bs by simp [hix])
        have HST := Lib.hid (leNum_step (l := bs.drop (p / 8)) (k := k) (by simp; omega) (fun z hz => HBy.out z (List.mem_of_mem_drop hz)))
        have e1 : (bs.drop (p / 8)).getD k 0 = bs.getD (p / 8 + k) 0 := by simp
        rw [e1] at HST
        clear e1
        generalize bs.getD (p / 8 + k) 0 = z at *
        obtain ⟨z', rfl⟩ : ∃ z' : Nat, z = z' := ⟨z.toNat, by omega⟩
        have hL := leNum_lt (l := (bs.drop (p / 8)).take k) (fun z hz => HBy.out z (List.mem_of_mem_drop (List.mem_of_mem_take hz)))
        generalize leNum ((bs.drop (p / 8)).take k) = v at *
        have hlen : ((bs.drop (p / 8)).take k).length = k := by simp; omega
        rw [hlen] at hL
        go_wp2
        go_roundw
        case rel =>
          refine ⟨k + 1, by omega, by go_num, ?_, rfl⟩
          rw [HST.out, or_step v z' k hL (by omega) (by omega)]
          simp
        case measure => simp [intOf]; omega
      · have hltI : ¬ (k : Int) < (p + n + 7 : Int) / 8 - (p : Int) / 8 := by omega
        obtain rfl : k = (p + n + 7) / 8 - p / 8 := by omega
        have hc2 := HC2.out.cell (i := 2) (v := .int .i64 p) rfl
        have hf2 := HC2.out.free 2
        have hL := leNum_lt (l := (bs.drop (p / 8)).take ((p + n + 7) / 8 - p / 8)) (fun z hz => HBy.out z (List.mem_of_mem_drop (List.mem_of_mem_take hz)))
        have hlen : ((bs.drop (p / 8)).take ((p + n + 7) / 8 - p / 8)).length = (p + n + 7) / 8 - p / 8 := by simp; omega
        rw [hlen] at hL
        obtain ⟨v, hv⟩ : ∃ v, v = leNum ((bs.drop (p / 8)).take ((p + n + 7) / 8 - p / 8)) := ⟨_, rfl⟩
        have HV := Lib.hid hv
        rw [← hv] at hL ⊢
        clear hv
        have e7 := and7 p (by omega)
        have h70 : p % 8 < 8 := Nat.mod_lt _ (by omega)
        generalize hq : p % 8 = q at *
        go_wp2
        go_ret2
        have hm5 : (p + n + 7) / 8 - p / 8 ≤ 5 := by omega
        have hv : v < 2 ^ 40 := Nat.lt_of_lt_of_le hL (by rw [pow256]; exact Nat.pow_le_pow_right (by omega) (by omega))
        have hres := get_num v q n hv hn
        refine .inr ⟨by omega, ?_, ?_, ?_⟩
        · show Ending.returned (.tuple #[.int .u32 (bits .and .u64 ((v : Int) / 2 ^ q) (IntKind.u64.wrap (IntKind.u64.wrap (2 ^ n) - 1)) % 4294967296), .bool true]) = _
          rw [hres, bits_cut bs p n HBy.out, hq, ← HV.out]
        · refine ⟨A, c, ?_, ?_, HLow.out⟩
          · exact HC2.out.put 2 _
          · exact rd_else (HR.out.below HB2.out) HC2.out _ _
        · exact (⟨HB2.out.os, HB2.out.tape, HB2.out.output, HB2.out.size, fun k hk _ => HB2.out.block k hk⟩ : w.grownBy wr (some r)).trans (grown_put _ _ _)
end Go.Proofs.YtlhaehefhhcgaaaDoor
