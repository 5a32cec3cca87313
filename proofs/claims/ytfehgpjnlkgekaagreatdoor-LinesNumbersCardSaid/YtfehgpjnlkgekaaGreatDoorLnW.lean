/-
  lines: what the walks are told of the library's variables; Itoa; row.
-/
import Derived.Test.YtfehgpjnlkgekaaGreatDoorShelf
import Derived.Test.YtfehgpjnlkgekaaGreatDoorKitBytes
import Derived.Test.YtfehgpjnlkgekaaGreatDoorLnTell
import Derived.Lib.ItoaLen
import Derived.Laws.BytesArg
namespace Go.Proofs.YtfehgpjnlkgekaaGreatDoor
open Go.RowKit
set_option linter.unusedVariables false
set_option linter.unusedSimpArgs false

structure LnT (w : World) : Prop where
  tab : Lib.TabIs Tryz.prog w "internal/strconv.uint64pow10" .u64 Lib.pow10Tab
  syn : ∃ tp p, w.var? Tryz.prog "strconv.ErrSyntax" = some #[.iface tp p]
  rng : ∃ tp p, w.var? Tryz.prog "strconv.ErrRange" = some #[.iface tp p]
  mx : ∃ m, w.cell? ⟨0, 0, none⟩ = some (.int .i64 m)
theorem var_below {P : Program} {w w' : World} {n : String} {cs : Array Value} (h : w.var? P n = some cs) (hb : Below w.heap.size w w') : w'.var? P n = some cs := by
  unfold World.var? at *
  cases hg : P.globalNamed n with
  | none => rw [hg] at h; cases h
  | some g =>
    rw [hg] at h
    simp only [Option.bind_some] at h ⊢
    have hlt : g < w.heap.size := by
      rcases Nat.lt_or_ge g w.heap.size with h1 | h1
      · exact h1
      · rw [Array.getElem?_eq_none h1] at h; cases h
    rw [hb.block g hlt]
    exact h
theorem cell_low {w w' : World} {a : Addr} {v : Value} (h : w.cell? a = some v) (hb : Below w.heap.size w w') : w'.cell? a = some v :=
  (World.cell?_of_block (hb.block a.block (block_lt_of_cell h))).trans h
theorem LnT.below {w w' : World} (h : LnT w) (hb : Below w.heap.size w w') : LnT w' :=
  ⟨var_below h.tab hb, h.syn.imp fun _ q => q.imp fun _ q => var_below q hb, h.rng.imp fun _ q => q.imp fun _ q => var_below q hb, h.mx.imp fun _ q => cell_low q hb⟩
theorem below_growN (w : World) (k : Nat) (os : Array Obj) : Below w.heap.size w (Sort.grow (w.drewN k) os) := by
  refine ⟨rfl, rfl, rfl, ?_, fun j hj => ?_⟩
  · show w.heap.size ≤ (w.heap ++ os).size
    rw [Array.size_append]; omega
  · show (w.heap ++ os)[j]? = w.heap[j]?
    exact Array.getElem?_append_left hj
theorem itoa_any (n : Int) (hb : i64b n) (w : World) (ht : LnT w) : Calls Tryz.prog 74 #[.int .i64 n] w fun e w' => e = .returned (.string ⟨(Lib.itoa n).toArray⟩) ∧ Below w.heap.size w w' :=
  (Tryz.strconv_Itoa n hb.1 hb.2 w ht.tab).mono fun e w' ⟨he, k, os, hw⟩ => ⟨he, by rw [hw]; exact below_growN w k os⟩
theorem cat_list (a b : List UInt8) : (⟨a.toArray⟩ : ByteArray) ++ ⟨b.toArray⟩ = ⟨(a ++ b).toArray⟩ := by
  apply ByteArray.ext
  simp
theorem own_lo8 {w w' : World} {base : Nat} {e : TypeId} {size n : Nat} {v : Value} {xs : List Value} (h : w.ownsRow base e size v n xs) (hb : Below w.heap.size w w') : w'.ownsRow base e size v n xs :=
  h.kept (row := none) ⟨hb.os, hb.tape, hb.output, hb.size, fun k hk _ => hb.block k hk⟩ (by cases hh : v.ownBlock <;> simp)
def HeldW (p : Prop) : Prop := p
theorem heldW {p : Prop} (h : HeldW p) : p := h
theorem src_blk {w : World} {B : Nat} {t : TypeId} {cs : Array Value} {size m c : Nat} (h : Blk w B t cs) (hs : cs.size = m * size) : Src w size (.slice (some ⟨B, 0, none⟩) m c) m cs.toList :=
  ⟨_, c, rfl, by simpa using hs, fun _ => ⟨B, 0, rfl, h.lt, fun j y hy => by rw [Nat.zero_add, h.cellq]; simpa using hy⟩⟩
theorem str_nums (l : List UInt8) : strOfNums (l.map fun c => (c.toNat : Int)) = ⟨l.toArray⟩ := by
  unfold strOfNums
  have e : ((fun n : Int => UInt8.ofNat n.toNat) ∘ fun c : UInt8 => (c.toNat : Int)) = id := by
    funext c
    simp
  rw [List.map_map, e, List.map_id]
def u8s (l : List UInt8) : List Value := l.map fun c => Value.int .u8 (c.toNat : Int)
theorem u8s_ints (l : List UInt8) : u8s l = (l.map fun c => (c.toNat : Int)).map (Value.int .u8) := by simp [u8s]
/-- Bytes in memory, made a string. -/
theorem conv_own {w : World} {base n c : Nat} {A : Option Addr} {l : List UInt8} (h : w.ownsRow base 5 1 (.slice A n c) n (u8s l)) : (convert 24 9 (.slice A n c)).run Tryz.prog w = .ok (.string ⟨l.toArray⟩) w := by
  rw [u8s_ints] at h
  obtain ⟨hl, hr⟩ := RdI.of_own h
  rcases Nat.eq_zero_or_pos n with rfl | hn
  · have : l = [] := List.eq_nil_of_length_eq_zero (by simpa using hl)
    subst this
    rcases h.2 with ⟨hv, _⟩ | ⟨g, cap, cur, hv, _⟩
    · simp only [Value.slice.injEq] at hv
      obtain ⟨rfl, _⟩ := hv
      exact run_convert_bytes_nil w 24 5 Tryz.underlying24 Tryz.underlying5 0 c 9 Tryz.underlying9
    · simp only [Value.slice.injEq] at hv
      obtain ⟨rfl, _⟩ := hv
      exact run_convert_bytes_arg (P := Tryz.prog) w 24 5 Tryz.underlying24 Tryz.underlying5 g 0 0 c [] rfl (fun i hi => by omega) 9 Tryz.underlying9
  · obtain ⟨b, off, rfl, _, hc⟩ := hr hn
    rw [← str_nums]
    exact run_convert_bytes_arg (P := Tryz.prog) w 24 5 Tryz.underlying24 Tryz.underlying5 b off n c _ hl hc 9 Tryz.underlying9
theorem wp_meet {α : Type} {P : Program} {c d : Code} {Q : Exit → Act → World → Prop} {a : Act} {w : World} (F : Act → α → Act) (R : α → World → Prop) (h1 : c.wp P (fun e a' w' => e = .normal ∧ ∃ x, a' = F a x ∧ R x w') a w) (h2 : ∀ x w', R x w' → d.wp P Q (F a x) w') : (Code.seq c d).wp P Q a w := by
  refine wp_seq (wp_mono h1 ?_)
  rintro e a' w' ⟨rfl, x, rfl, hR⟩
  exact h2 x w' hR
theorem wp_meetK {α : Type} {P : Program} {c : Code} {K : Act → World → Prop} {Q : Exit → Act → World → Prop} {a : Act} {w : World} (F : Act → α → Act) (R : α → World → Prop) (h1 : c.wp P (fun e a' w' => e = .normal ∧ ∃ x, a' = F a x ∧ R x w') a w) (h2 : ∀ x w', R x w' → K (F a x) w') : c.wp P (Exit.then K Q) a w := by
  refine wp_mono h1 ?_
  rintro e a' w' ⟨rfl, x, rfl, hR⟩
  exact h2 x w' hR
theorem rd_new {w : World} {g n : Nat} {t : TypeId} (zs : List Int) {cs : Array Value} (h : Blk w g t cs) (hc : cs = (zs.map (Value.int .i64)).toArray) (hn : n = zs.length) : RdI .i64 w (some ⟨g, 0, none⟩) n zs := by
  subst hn
  refine ⟨rfl, fun h0 => ⟨_, 0, rfl, h.lt, fun j hj => ?_⟩⟩
  rw [Nat.zero_add]
  refine h.cell ?_
  subst hc
  simp [hj]
theorem cell_al {w : World} {a : Addr} {v : Value} (h : w.cell? a = some v) (o : Obj) : (w.alloc o).cell? a = some v := cell_low h ((Below.refl _ _).alloc (Nat.le_refl _) _)
theorem cell_al2 {w : World} {a : Addr} {v : Value} (h : w.cell? a = some v) (o o' : Obj) : ((w.alloc o).alloc o').cell? a = some v := cell_al (cell_al h o) o'
def RowI (word : List UInt8) (ns : List Int) (w : World) (k : Nat) (v iv : Value) (wr : World) : Prop :=
  ∃ i, iv = .int .i64 ((i : Nat) : Int) ∧ i + k = ns.length ∧ v = .string ⟨(rowL word (ns.take i)).toArray⟩ ∧ Below w.heap.size w wr
theorem rowL_next {word : List UInt8} {ns : List Int} {i : Nat} (h : i < ns.length) : rowL word (ns.take (i + 1)) = rowL word (ns.take i) ++ ([32] ++ Lib.itoa (ns.getD i 0)) := by
  unfold rowL
  rw [take_snoc ns i h, List.flatMap_append, List.flatMap_singleton, List.append_assoc]
  rfl
theorem itoa_len {n : Int} (h : i64b n) : (Lib.itoa n).length ≤ 21 := Lib.itoa_length_le n h.1 h.2
theorem rowL_len {word : List UInt8} : ∀ {ns : List Int}, (∀ z ∈ ns, i64b z) → (rowL word ns).length ≤ word.length + 22 * ns.length
  | [], _ => by simp [rowL]
  | z :: ns, h => by
    have ih := rowL_len (word := word) (ns := ns) (fun y hy => h y (by simp [hy]))
    have := itoa_len (h z (by simp))
    unfold rowL at *
    simp only [List.flatMap_cons, List.length_append, List.length_cons] at *
    omega
set_option maxHeartbeats 1600000 in
theorem row_any (word : List UInt8) (ns : List Int) (A : Option Addr) (n c : Nat) (w : World) (ha : RdI .i64 w A n ns) (hb : ∀ z ∈ ns, i64b z) (hn : n ≤ 100000) (hw : word.length ≤ 1000000) (ht : LnT w) :
    Calls Tryz.prog 37 #[.string ⟨word.toArray⟩, .slice A n c] w fun e w' => e = .returned (.string ⟨(rowL word ns).toArray⟩) ∧ Below w.heap.size w w' := by
  have HA := Lib.hid ha
  have HB := Lib.hid hb
  have HT := Lib.hid ht
  have hl := ha.1
  clear ha hb ht
  go_enter Tryz.func37, Tryz.ntmps37
  go_wp2
  go_loopg [0, 9] n (RowI word ns w)
  case atStart => exact ⟨0, rfl, by omega, by simp [rowL], Below.refl _ _⟩
  case round =>
    obtain ⟨i, rfl, hi, rfl, hbel⟩ := hrel
    have HBel := Lib.hid hbel
    clear hbel
    by_cases hlt : i < n
    · have hltI : (i : Int) < (n : Int) := by omega
      obtain ⟨b, off, rfl, _, hx⟩ := HA.out.cell HBel.out hlt
      have hzb := HB.out (ns.getD i 0) (by rw [List.getD_eq_getElem?_getD, List.getElem?_eq_getElem (by omega)]; exact List.getElem_mem (by omega))
      have HNx := Lib.hid (rowL_next (word := word) (ns := ns) (i := i) (by omega))
      generalize ns.getD i 0 = z at *
      have hz21 := itoa_len hzb
      have hr := rowL_len (word := word) (ns := ns.take i) (fun y hy => HB.out y (List.mem_of_mem_take hy))
      rw [List.length_take] at hr
      have hs1 : ¬ 9223372036854775807 < 1 + (Lib.itoa z).length := by omega
      have hs2 : ¬ 9223372036854775807 < (rowL word (ns.take i)).length + (1 + (Lib.itoa z).length) := by omega
      go_wp2_with fail
      refine (itoa_any z hzb wr (HT.out.below HBel.out)).mono ?_
      rintro ev w1 ⟨rfl, hb1⟩
      have HB1 := Lib.hid (below_chain HBel.out hb1)
      clear hb1
      go_wp2
      go_roundg (gk - 1)
      case measure => omega
      case rel =>
        refine ⟨i + 1, by go_num, by omega, ?_, HB1.out⟩
        rw [HNx.out, ← cat_list, ← cat_list]
    · obtain rfl : i = n := by omega
      go_wp2
      go_ret
      refine ⟨?_, HBel.out⟩
      rw [List.take_of_length_le (by omega)]
      rfl
end Go.Proofs.YtfehgpjnlkgekaaGreatDoor
