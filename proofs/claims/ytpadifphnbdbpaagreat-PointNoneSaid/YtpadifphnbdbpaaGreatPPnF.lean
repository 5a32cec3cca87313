/-
  what this claim needs of: PnF, PnF2, PnF3, PnF4, PnF5, PnF6 (written by cut.py).
-/
import Derived.Test.YtpadifphnbdbpaaGreatPPnJ
import Derived.Test.YtpadifphnbdbpaaGreatPCrc
import Derived.ArgAppend
import Derived.Lib.AppendStr
import Derived.Laws.BytesArg
namespace Go.Proofs.YtpadifphnbdbpaaGreat
open Go.RowKit Go.Maps
set_option linter.unusedVariables false
set_option linter.unusedSimpArgs false

def beL (n k : Nat) : List Int := (List.range k).map fun j => ((n / 2 ^ (8 * (k - 1 - j)) % 256 : Nat) : Int)
def saidL (b : List Int) : Nat := b.foldl (fun n z => 256 * n + z.toNat) 0
theorem beL_len (n k : Nat) : (beL n k).length = k := by simp [beL]
theorem beL_bytes (n k : Nat) : ∀ z ∈ beL n k, 0 ≤ z ∧ z < 256 := by
  intro z hz
  obtain ⟨j, _, rfl⟩ := List.mem_map.1 hz
  omega
theorem saidL_snoc (b : List Int) (z : Int) : saidL (b ++ [z]) = 256 * saidL b + z.toNat := by simp [saidL]
theorem beL_succ (n k : Nat) : beL n (k + 1) = beL (n / 256) k ++ [((n % 256 : Nat) : Int)] := by
  unfold beL
  rw [List.range_succ, List.map_append]
  congr 1
  · apply List.map_congr_left
    intro j hj
    rw [List.mem_range] at hj
    have e : 8 * (k + 1 - 1 - j) = 8 + 8 * (k - 1 - j) := by omega
    rw [e, Nat.pow_add, ← Nat.div_div_eq_div_mul]
  · simp
theorem said_beL (k : Nat) : ∀ n : Nat, n < 256 ^ k → saidL (beL n k) = n := by
  induction k with
  | zero => intro n hn; simp at hn; subst hn; rfl
  | succ k ih =>
    intro n hn
    rw [beL_succ, saidL_snoc, ih (n / 256) (by rw [Nat.pow_succ] at hn; exact Nat.div_lt_of_lt_mul (by rw [Nat.mul_comm]; exact hn))]
    omega
theorem beL_take (n k j : Nat) (h : j < k) : (beL n k).take (k - j) = (beL n k).take (k - (j + 1)) ++ [((n / 2 ^ (8 * j) % 256 : Nat) : Int)] := by
  obtain ⟨i, hi⟩ : ∃ i, i = k - (j + 1) := ⟨_, rfl⟩
  rw [← hi, show k - j = i + 1 by omega, show j = k - 1 - i by omega, List.take_add_one]
  congr 1
  unfold beL
  rw [List.getElem?_map, List.getElem?_range (by omega)]
  rfl
/-- Bytes as values. -/
def bV (b : List Int) : List Value := b.map (Value.int .u8)
theorem bV_len (b : List Int) : (bV b).length = b.length := by simp [bV]
theorem bV_app (a b : List Int) : bV (a ++ b) = bV a ++ bV b := by simp [bV]
theorem bV_one (b : List Int) : ∀ v ∈ bV b, v.oneCell' = true := u8_one
section
variable {w : World} {ops : Array Oper} {rest : List Oper} {o : Oper} {a : Act} {Q : Exit → Act → World → Prop}
/-- append(b[:n], ..) where there is room: in place, what lies behind stays. -/
theorem wpl_app_spare (hgd : o.guard = none) (s x : Operand) (hop : o.op = .call { callee := .builtin .append, args := #[s, x], argTypes := #[78, 78] }) (g n cap : Nat) (cs : List Value) (hs : a.eval s = .slice (some ⟨g, 0, none⟩) n cap) (hb : Blk w g 5 cs.toArray)
    (u : Value) (m : Nat) (ys : List Value) (hx : a.eval x = u) (hsrc : Src w 1 u m ys) (hm : 0 < m) (h1 : ∀ v ∈ ys, v.oneCell' = true) (hroom : n + m ≤ cap) (hfit : n + m ≤ cs.length)
    (h : ∀ w', Blk w' g 5 (cs.take n ++ ys ++ cs.drop (n + m)).toArray → w.grownBy w' (some g) → w'.heap.size = w.heap.size → wpList Tryz.prog ops Q rest (a.put o.dst (.slice (some ⟨g, 0, none⟩) (n + m) cap)) w') : wpList Tryz.prog ops Q (o :: rest) a w := by
  obtain ⟨i0, hi', hz0, hz1, hz2⟩ := info_parts infoByte
  obtain ⟨A, c, rfl, hl, hc⟩ := hsrc
  obtain ⟨b, off, rfl, hlt, hcell⟩ := hc hm
  rw [Nat.mul_one] at hl
  have hr := run_append_room_cells (P := Tryz.prog) w 78 o.type 5 i0 Tryz.underlying78 hi' g 0 n cap ⟨b, off, none⟩ m c ys (by rw [hz1]; omega) (fun j v hv => by rw [Addr.add_mid]; exact hcell j v hv) h1 hroom
    (fun j hj => by rw [hz1, hb.cellq]; simp; omega) (fun j hj => hb.free _)
  rw [hz1, Nat.zero_add, Nat.mul_one] at hr
  refine wpList_plain hgd fun K hK => ?_
  unfold Oper.wp execOp
  simp only [hop, resolve, invoke, builtin, Sem.run_bind, Sem.run_pure, Result.andThen_ok, List.map_toArray, List.map_cons, List.map_nil, hs, hx, hr]
  have h2 := Blk.puts ys w cs.toArray n hb
  rw [putAt_list _ _ _ (by simp; omega), List.toList_toArray, hl] at h2
  exact hK _ _ (h _ h2 (grown_setCells _ w n).1 (grown_setCells _ w n).2)
end
theorem shift_byteL (x k : Nat) : (x : Int) / 2 ^ (8 * k) % 256 = ((x / 2 ^ (8 * k) % 256 : Nat) : Int) := by simp
end Go.Proofs.YtpadifphnbdbpaaGreat
namespace Go.Proofs.YtpadifphnbdbpaaGreat
open Go.RowKit Go.Maps
set_option linter.unusedVariables false
set_option linter.unusedSimpArgs false
section
variable {w : World}
def NumL (w : World) (g cap : Nat) (cs : List Value) (n x k : Nat) (m : Nat) (kv v : Value) (wr : World) : Prop :=
  ∃ j : Nat, kv = .int .i64 ((j : Int) - 1) ∧ j ≤ k ∧ j ≤ m ∧ m ≤ j ∧ v = .slice (some ⟨g, 0, none⟩) (n + (k - j)) cap ∧ Blk wr g 5 (cs.take n ++ bV ((beL x k).take (k - j)) ++ cs.drop (n + (k - j))).toArray ∧ Tch [g] w wr
def NumPost (w : World) (g cap : Nat) (cs : List Value) (n x k : Nat) (e : Ending) (w' : World) : Prop :=
  e = .returned (.slice (some ⟨g, 0, none⟩) (n + k) cap) ∧ Blk w' g 5 (cs.take n ++ bV (beL x k) ++ cs.drop (n + k)).toArray ∧ Tch [g] w w'
theorem src_one {w : World} {b : Nat} {t : TypeId} {v : Value} (h : Blk w b t #[v]) (c : Nat) : Src w 1 (.slice (some ⟨b, 0, none⟩) 1 c) 1 [v] := by
  refine ⟨_, c, rfl, rfl, fun _ => ⟨b, 0, rfl, h.lt, fun j y hy => ?_⟩⟩
  rw [Nat.zero_add]
  exact h.cell (by simpa using hy)
set_option maxRecDepth 100000 in
set_option maxHeartbeats 1600000 in
theorem fr_number (g cap : Nat) (cs : List Value) (n x k : Nat) (h : Blk w g 5 cs.toArray) (hcs : cs.length = cap) (hn : n + k ≤ cap) (hk : 1 ≤ k ∧ k ≤ 8) (hx : x ≤ 4611686018427387904) (hc : cap ≤ 1000000) :
    Calls Tryz.prog 113 #[.slice (some ⟨g, 0, none⟩) n cap, .int .u64 (x : Int), .int .i64 (k : Int)] w (NumPost w g cap cs n x k) := by
  have HB := Lib.hid h
  have HC := Lib.hid hcs
  clear h hcs
  go_enter Tryz.func113, Tryz.ntmps113
  go_wp2
  go_loopg [7, 0] k (fun m kv v wr => NumL w g cap cs n x k m kv v wr)
  case atStart =>
    refine ⟨k, rfl, by omega, by omega, by omega, by rw [Nat.sub_self]; rfl, ?_, Tch.refl _ _⟩
    have e : cs.take n ++ bV ((beL x k).take (k - k)) ++ cs.drop (n + (k - k)) = cs := by
      rw [Nat.sub_self, List.take_zero, Nat.add_zero]
      show cs.take n ++ [] ++ cs.drop n = cs
      rw [List.append_nil, List.take_append_drop]
    rw [e]
    exact HB.out
  case round =>
    obtain ⟨j, rfl, h1, h2, h3, rfl, hS, hT⟩ := hrel
    have HS := Lib.hid hS
    have HT := Lib.hid hT
    clear hS hT
    rcases Nat.eq_zero_or_pos j with rfl | hj0
    · go_wp2
      go_ret
      have := HS.out
      rw [Nat.sub_zero, show (beL x k).take k = beL x k from List.take_of_length_le (by rw [beL_len]; exact Nat.le_refl _)] at this
      exact ⟨rfl, this, HT.out⟩
    · obtain ⟨i, rfl⟩ : ∃ i, j = i + 1 := ⟨j - 1, by omega⟩
      have eK : (((i + 1 : Nat) : Int) - 1) = (i : Int) := by omega
      rw [eK]
      clear eK
      obtain ⟨q, hq⟩ : ∃ q, q = n + (k - (i + 1)) := ⟨_, rfl⟩
      rw [← hq] at HS
      rw [← hq]
      have HQ := Lib.hid (show q = n + (k - (i + 1)) ∧ q + 1 ≤ cap from ⟨hq, by omega⟩)
      obtain ⟨D, hD⟩ : ∃ D, D = cs.take n ++ bV ((beL x k).take (k - (i + 1))) ++ cs.drop q := ⟨_, rfl⟩
      rw [← hD] at HS
      have HD := Lib.hid hD
      have HDl := Lib.hid (show D.length = cap by rw [hD, List.length_append, List.length_append, bV_len, List.length_take, List.length_take, List.length_drop, beL_len, HC.out]; omega)
      clear hq hD
      go_wp2_with (refine wpl_app_spare rfl (.tmp 14) (.tmp 20) (by rfl) g q cap D (by rfl) (HS.out.alloc _) _ 1 _ (by rfl) (src_one (Blk.made _ _ _) 1) (by omega) (by intro v hv; simp at hv; subst hv; rfl) HQ.out.2 (by rw [HDl.out]; exact HQ.out.2) ?_; intro w2 hb hg hz; have B2 := Lib.hid hb; have T2 := Lib.hid (show Tch [g] w w2 from (HT.out.trans (Tch.below ((Below.refl _ wr).alloc (Nat.le_refl _) _))).trans (tch_g hg)); clear hb hg hz; simp only [Act.put, List.setIfInBounds_toArray, List.set_cons_zero, List.set_cons_succ])
      go_roundg (gk - 1)
      case measure => omega
      case rel =>
        refine ⟨i, rfl, by omega, by omega, by omega, ?_, ?_, T2.out⟩
        · congr 1
          have := HQ.out.1
          omega
        · have := B2.out
          rw [shift_byteL] at this
          have hP : (cs.take n ++ bV ((beL x k).take (k - (i + 1)))).length = q := by
            rw [List.length_append, bV_len, List.length_take, List.length_take, beL_len, HC.out]
            have := HQ.out
            omega
          have e1 : D.take q = cs.take n ++ bV ((beL x k).take (k - (i + 1))) := by rw [HD.out, List.take_append_of_le_length (by rw [hP]; exact Nat.le_refl _), List.take_of_length_le (by rw [hP]; exact Nat.le_refl _)]
          have e2 : D.drop (q + 1) = cs.drop (q + 1) := by
            rw [HD.out, List.drop_append, hP, List.drop_eq_nil_of_le (by rw [hP]; omega), List.nil_append, List.drop_drop]
            congr 1
            omega
          rw [e1, e2] at this
          rw [beL_take _ _ _ (by omega), bV_app, show n + (k - i) = q + 1 by have := HQ.out; omega]
          simpa [bV] using this
end
end Go.Proofs.YtpadifphnbdbpaaGreat
namespace Go.Proofs.YtpadifphnbdbpaaGreat
open Go.RowKit Go.Maps
set_option linter.unusedVariables false
set_option linter.unusedSimpArgs false
/-- A row of 512 of which the first are P, the others noughts. -/
def frZ (P : List Int) : List Value := bV P ++ List.replicate (512 - P.length) (Value.int .u8 0)
theorem frZ_len (P : List Int) (h : P.length ≤ 512) : (frZ P).length = 512 := by
  unfold frZ
  rw [List.length_append, bV_len, List.length_replicate]
  omega
theorem frZ_app (P Q : List Int) (h : P.length + Q.length ≤ 512) : (frZ P).take P.length ++ bV Q ++ (frZ P).drop (P.length + Q.length) = frZ (P ++ Q) := by
  unfold frZ
  rw [List.take_append_of_le_length (by rw [bV_len]; exact Nat.le_refl _), List.take_of_length_le (by rw [bV_len]; exact Nat.le_refl _), List.drop_append, bV_len, List.drop_eq_nil_of_le (by rw [bV_len]; omega), List.nil_append, List.drop_replicate, bV_app, List.length_append]
  congr 2
  omega
def bodyL (kind ep seq : Nat) (ds : List Int) : List Int := [112, 101, 97, 116] ++ [(kind : Int), 0, 0, 0] ++ beL ep 8 ++ beL seq 8 ++ beL ds.length 4 ++ ds
theorem bodyL_len (kind ep seq : Nat) (ds : List Int) : (bodyL kind ep seq ds).length = 28 + ds.length := by simp [bodyL, beL_len]; omega
theorem bodyL_bytes {kind ep seq : Nat} {ds : List Int} (hk : kind < 256) (hd : ∀ z ∈ ds, 0 ≤ z ∧ z < 256) : ∀ z ∈ bodyL kind ep seq ds, 0 ≤ z ∧ z < 256 := by
  intro z hz
  unfold bodyL at hz
  simp only [List.mem_append] at hz
  rcases hz with ((((hz | hz) | hz) | hz) | hz) | hz
  · simp at hz; omega
  · simp at hz; omega
  · exact beL_bytes _ _ z hz
  · exact beL_bytes _ _ z hz
  · exact beL_bytes _ _ z hz
  · exact hd z hz
def sumL (P : List Int) : List Int := P ++ beL (crcB P).toNat 4
def frL (kind ep seq : Nat) (ds : List Int) : List Int := sumL (bodyL kind ep seq ds) ++ List.replicate (512 - (32 + ds.length)) 0
theorem frL_val (kind ep seq : Nat) (ds : List Int) : bV (frL kind ep seq ds) = frZ (sumL (bodyL kind ep seq ds)) := by
  unfold frL frZ
  have h : (sumL (bodyL kind ep seq ds)).length = 32 + ds.length := by unfold sumL; rw [List.length_append, bodyL_len, beL_len]; omega
  rw [bV_app, h]
  congr 1
  simp [bV]
section
variable {w : World} {ops : Array Oper} {rest : List Oper} {o : Oper} {a : Act} {Q : Exit → Act → World → Prop}
theorem wpl_app_peat (hgd : o.guard = none) (s x : Operand) (hop : o.op = .call { callee := .builtin .append, args := #[s, x], argTypes := #[78, 9] }) (g n cap : Nat) (cs : List Value) (hs : a.eval s = .slice (some ⟨g, 0, none⟩) n cap) (hb : Blk w g 5 cs.toArray)
    (st : ByteArray) (hx : a.eval x = .string st) (hroom : n + st.size ≤ cap) (hfit : n + st.size ≤ cs.length)
    (h : ∀ w', Blk w' g 5 (cs.take n ++ Lib.strCells st ++ cs.drop (n + st.size)).toArray → w.grownBy w' (some g) → w'.heap.size = w.heap.size → wpList Tryz.prog ops Q rest (a.put o.dst (.slice (some ⟨g, 0, none⟩) (n + st.size) cap)) w') : wpList Tryz.prog ops Q (o :: rest) a w := by
  obtain ⟨i0, hi', hz0, hz1, hz2⟩ := info_parts infoByte
  have hr := Lib.run_append_room_string (P := Tryz.prog) w 78 9 o.type 5 i0 Tryz.underlying78 Tryz.underlying9 hi' hz1 g n cap cs.toArray hb st hroom (by simpa using hfit)
  refine wpList_plain hgd fun K hK => ?_
  unfold Oper.wp execOp
  simp only [hop, resolve, invoke, builtin, Sem.run_bind, Sem.run_pure, Result.andThen_ok, List.map_toArray, List.map_cons, List.map_nil, hs, hx, hr]
  refine hK _ _ (h _ (setRow_heap w g _ _ _ _ hb) ⟨rfl, rfl, rfl, by simp [World.setRow], fun k _ hk => setRow_other w g k _ (fun e => hk (by simp [e]))⟩ (by simp [World.setRow]))
/-- Nothing is appended. -/
theorem wpl_app_none (hgd : o.guard = none) (s x : Operand) (hop : o.op = .call { callee := .builtin .append, args := #[s, x], argTypes := #[78, 78] }) (g n cap : Nat) (hs : a.eval s = .slice (some ⟨g, 0, none⟩) n cap) (hn : n ≤ cap)
    (A : Option Addr) (c : Nat) (hx : a.eval x = .slice A 0 c)
    (h : wpList Tryz.prog ops Q rest (a.put o.dst (.slice (some ⟨g, 0, none⟩) n cap)) w) : wpList Tryz.prog ops Q (o :: rest) a w := by
  obtain ⟨i0, hi', hz0, hz1, hz2⟩ := info_parts infoByte
  have hrun : ∀ ty, (Builtin.append_ #[78, 78] ty #[.slice (some ⟨g, 0, none⟩) n cap, .slice A 0 c]).run Tryz.prog w = .ok (.slice (some ⟨g, 0, none⟩) n cap) w := by
    intro ty
    cases A <;> simp [Builtin.append_, run_underlying Tryz.underlying78, sizeOf, typeInfo, hi', Builtin.lenOf, Builtin.firstCells, hn, storeCells, loadCells, loadCellsFrom]
  refine wpList_plain hgd fun K hK => ?_
  unfold Oper.wp execOp
  simp only [hop, resolve, invoke, builtin, Sem.run_bind, Sem.run_pure, Result.andThen_ok, List.map_toArray, List.map_cons, List.map_nil, hs, hx, hrun]
  exact hK _ _ h
end
section
variable {w : World}
theorem fr_may (x : Nat) (hx : x ≤ 1099511627776) (w : World) : Calls Tryz.prog 111 #[.int .i64 (x : Int)] w fun e w' => e = .returned (.bool true) ∧ w = w' := by
  have e1 : (0 : Int) ≤ (x : Int) := by omega
  have e2 : (x : Int) ≤ 1099511627776 := by omega
  go_enter Tryz.func111, Tryz.ntmps111
  go_wp2
  go_ret
  exact ⟨rfl, rfl⟩
theorem fr_sectors (m : Nat) (hm : m ≤ 480) (w : World) : Calls Tryz.prog 112 #[.int .i64 (m : Int)] w fun e w' => e = .returned (.int .i64 1) ∧ w = w' := by
  have e1 : (28 + (m : Int) + 4 + 512 - 1).tdiv 512 = 1 := by rw [Int.tdiv_eq_ediv_of_nonneg (by omega)]; omega
  go_enter Tryz.func112, Tryz.ntmps112
  go_wp2
  go_ret
  exact ⟨rfl, rfl⟩
end
end Go.Proofs.YtpadifphnbdbpaaGreat
namespace Go.Proofs.YtpadifphnbdbpaaGreat
open Go.RowKit Go.Maps
set_option linter.unusedVariables false
set_option linter.unusedSimpArgs false
section
variable {w : World}
def fmC (kind ep seq : Nat) (A : Option Addr) (m c : Nat) : List Value := [.int .i64 (kind : Int), .int .i64 (ep : Int), .int .i64 (seq : Int), .slice A m c]
theorem fmC_info (kind ep seq : Nat) (A : Option Addr) (m c : Nat) : (Tryz.prog.info? 155).map (·.size) = some (fmC kind ep seq A m c).length := by show _ = some 4; kernel_rfl
theorem idx2 (a b : Int) (i : Nat) (I x : Int) (hI : I = (i : Int)) (hi : i < 2) (hx : (#[Value.int .i64 a, .int .i64 b] : Array Value)[i]? = some (.int .i64 x)) (w : World) : (Instr.index 215 (.agg #[Value.int .i64 a, .int .i64 b]) (.int .i64 I)).run Tryz.prog w = .ok (.int .i64 x) w := by
  subst hI
  exact idx_arrP _ _ 2 _ _ i _ Tryz.underlying215 Tryz.sizeOf3 Tryz.isAgg3 hi hx w
theorem own_full {w : World} {base g n : Nat} {e : TypeId} {xs : List Value} (h : w.ownsRow base e 1 (.slice (some ⟨g, 0, none⟩) n n) n xs) : Blk w g e xs.toArray := by
  rcases h.2 with ⟨e1, _⟩ | ⟨g', cap, cur, e1, _, hg, _, _, hs, ht⟩
  · cases e1
  · injection e1 with e1 e2 e3
    injection e1 with e1
    injection e1 with e1
    subst e1 e3
    have hb : Blk w g e cur := hg
    rw [Nat.mul_one] at hs ht
    have : cur = xs.toArray := by
      rw [← ht, ← hs, ← Array.length_toList, List.take_length]
    rwa [this] at hb
theorem wpl_app_peat0 {w : World} {ops : Array Oper} {rest : List Oper} {o : Oper} {a : Act} {Q : Exit → Act → World → Prop} (hgd : o.guard = none) (s : Operand) (hop : o.op = .call { callee := .builtin .append, args := #[s, .const (.string { data := #[112, 101, 97, 116] })], argTypes := #[78, 9] }) (g : Nat) (hs : a.eval s = .slice (some ⟨g, 0, none⟩) 0 512) (hb : Blk w g 5 (frZ []).toArray)
    (h : ∀ w', Blk w' g 5 (frZ [112, 101, 97, 116]).toArray → w.grownBy w' (some g) → w'.heap.size = w.heap.size → wpList Tryz.prog ops Q rest (a.put o.dst (.slice (some ⟨g, 0, none⟩) 4 512)) w') : wpList Tryz.prog ops Q (o :: rest) a w :=
  wpl_app_peat hgd s _ hop g 0 512 (frZ []) hs hb { data := #[112, 101, 97, 116] } rfl (by show 0 + 4 ≤ 512; omega) (by rw [frZ_len _ (by simp)]; show 0 + 4 ≤ 512; omega) (fun w' h1 h2 h3 => h w' (by
    have := frZ_app [] [112, 101, 97, 116] (by simp)
    show Blk w' g _ (frZ ([] ++ [112, 101, 97, 116])).toArray
    rw [← this]
    exact h1) h2 h3)
theorem src_four {w : World} {b : Nat} {t : TypeId} {v0 v1 v2 v3 : Value} (h : Blk w b t #[v0, v1, v2, v3]) (c : Nat) : Src w 1 (.slice (some ⟨b, 0, none⟩) 4 c) 4 [v0, v1, v2, v3] := by
  refine ⟨_, c, rfl, rfl, fun _ => ⟨b, 0, rfl, h.lt, fun j y hy => ?_⟩⟩
  rw [Nat.zero_add]
  exact h.cell (by simpa using hy)
def FpPost (w : World) (kind ep seq : Nat) (ds : List Int) (e : Ending) (w' : World) : Prop := ∃ g, e = .returned (.tuple #[.slice (some ⟨g, 0, none⟩) 512 512, .int .i64 0]) ∧ Blk w' g 5 (bV (frL kind ep seq ds)).toArray ∧ w.heap.size ≤ g ∧ Below w.heap.size w w'
/-- While out is filled: P stands in it. -/
structure FpI (w : World) (g : Nat) (P : List Int) (A : Option Addr) (m c : Nat) (ds : List Int) (kind ep seq : Nat) (W : World) : Prop where
  out : Blk W g 5 (frZ P).toArray
  box : Blk W w.heap.size 155 (fmC kind ep seq A m c).toArray
  src : Src W 1 (.slice A m c) m (bV ds)
  low : Below w.heap.size w W
  ge : w.heap.size < g
theorem FpI.alloc {g : Nat} {P : List Int} {A : Option Addr} {m c : Nat} {ds : List Int} {kind ep seq : Nat} {W W' : World} (h : FpI w g P A m c ds kind ep seq W) (hb : Below W.heap.size W W') : FpI w g P A m c ds kind ep seq W' :=
  ⟨h.out.below hb h.out.lt, h.box.below hb h.box.lt, h.src.below hb, below_chain h.low hb, h.ge⟩
theorem FpI.turn {g : Nat} {P P' : List Int} {A : Option Addr} {m c : Nat} {ds : List Int} {kind ep seq : Nat} {W W' : World} (hA : 0 < m → ∀ a, A = some a → a.block < w.heap.size) (h : FpI w g P A m c ds kind ep seq W) (ho : Blk W' g 5 (frZ P').toArray) (hT : Tch [g] W W') : FpI w g P' A m c ds kind ep seq W' := by
  have hge := h.ge
  refine ⟨ho, h.box.tch hT (by simp; omega), ?_, h.low.trans (hT.toBelow h.low.size (fun k hk => by simp at hk; omega)), h.ge⟩
  obtain ⟨A', c', e, hl, hc⟩ := h.src
  refine ⟨A', c', e, hl, fun hm => ?_⟩
  obtain ⟨b, off, e2, hlt, hcell⟩ := hc hm
  injection e with e
  subst e
  subst e2
  have hb := hA hm _ rfl
  simp only at hb
  have hs : W'.heap[b]? = W.heap[b]? := hT.block b hlt (by simp; omega)
  exact ⟨b, off, rfl, Nat.lt_of_lt_of_le hlt hT.size, fun j y hy => (World.cell?_of_block (a := ⟨b, off + j, none⟩) hs).trans (hcell j y hy)⟩
theorem fr_num {g : Nat} {P : List Int} {A : Option Addr} {m c : Nat} {ds : List Int} {kind ep seq : Nat} {W : World} (h : FpI w g P A m c ds kind ep seq W) (hA : 0 < m → ∀ a, A = some a → a.block < w.heap.size) (n k n' : Nat) (K : Int) (hP : P.length = n) (hK : K = (k : Int)) (hk : 1 ≤ k ∧ k ≤ 8) (hn : n' = n + k) (hn2 : n + k ≤ 512) (x : Nat) (hx : x ≤ 4611686018427387904) :
    Calls Tryz.prog 113 #[.slice (some ⟨g, 0, none⟩) n 512, .int .u64 (x : Int), .int .i64 K] W fun e W' => e = .returned (.slice (some ⟨g, 0, none⟩) n' 512) ∧ FpI w g (P ++ beL x k) A m c ds kind ep seq W' := by
  subst hK hn hP
  refine (fr_number g 512 (frZ P) P.length x k h.out (frZ_len _ (by omega)) hn2 hk hx (by omega)).mono ?_
  rintro e W' ⟨rfl, hb, hT⟩
  refine ⟨rfl, h.turn hA ?_ hT⟩
  rw [← frZ_app _ _ (by rw [beL_len]; exact hn2), beL_len]
  exact hb
theorem wpl_app_bytes {w : World} {ops : Array Oper} {rest : List Oper} {o : Oper} {a : Act} {Q : Exit → Act → World → Prop} (hgd : o.guard = none) (s x : Operand) (hop : o.op = .call { callee := .builtin .append, args := #[s, x], argTypes := #[78, 78] }) (g n cap : Nat) (cs : List Value) (hs : a.eval s = .slice (some ⟨g, 0, none⟩) n cap) (hb : Blk w g 5 cs.toArray)
    (A : Option Addr) (m c : Nat) (ys : List Value) (hx : a.eval x = .slice A m c) (hsrc : Src w 1 (.slice A m c) m ys) (h1 : ∀ v ∈ ys, v.oneCell' = true) (hroom : n + m ≤ cap) (hfit : n + m ≤ cs.length)
    (h : ∀ w', Blk w' g 5 (cs.take n ++ ys ++ cs.drop (n + m)).toArray → Tch [g] w w' → wpList Tryz.prog ops Q rest (a.put o.dst (.slice (some ⟨g, 0, none⟩) (n + m) cap)) w') : wpList Tryz.prog ops Q (o :: rest) a w := by
  rcases Nat.eq_zero_or_pos m with rfl | hm
  · refine wpl_app_none hgd s x hop g n cap hs hroom A c hx (h w ?_ (Tch.refl _ _))
    obtain ⟨_, _, _, hl, _⟩ := hsrc
    have : ys = [] := List.eq_nil_of_length_eq_zero (by omega)
    rw [this, List.append_nil, Nat.add_zero, List.take_append_drop]
    exact hb
  · exact wpl_app_spare hgd s x hop g n cap cs hs hb _ m ys hx hsrc hm h1 hroom hfit (fun w' h1 h2 _ => h w' h1 (tch_g h2))
theorem frZ_rd {W : World} {g : Nat} {P : List Int} (h : Blk W g 5 (frZ P).toArray) : RdI .u8 W (some ⟨g, 0, none⟩) P.length P := by
  refine ⟨rfl, fun _ => ⟨g, 0, rfl, h.lt, fun j hj => ?_⟩⟩
  rw [Nat.zero_add]
  refine h.cell ?_
  unfold frZ
  rw [List.getElem?_toArray, List.getElem?_append_left (by rw [bV_len]; exact hj), bV, List.getElem?_map, List.getElem?_eq_getElem hj, List.getD_eq_getElem?_getD, List.getElem?_eq_getElem hj]
  rfl
def FpL (w : World) (g : Nat) (A : Option Addr) (m c : Nat) (ds : List Int) (kind ep seq : Nat) (gk : Nat) (iv bv : Value) (W : World) : Prop :=
  (gk = 2 ∧ iv = .int .i64 0 ∧ bv = .slice (some ⟨g, 0, none⟩) 8 512 ∧ FpI w g ([112, 101, 97, 116] ++ [(kind : Int), 0, 0, 0]) A m c ds kind ep seq W) ∨
  (gk = 1 ∧ iv = .int .i64 1 ∧ bv = .slice (some ⟨g, 0, none⟩) 16 512 ∧ FpI w g ([112, 101, 97, 116] ++ [(kind : Int), 0, 0, 0] ++ beL ep 8) A m c ds kind ep seq W) ∨
  (gk = 0 ∧ iv = .int .i64 2 ∧ bv = .slice (some ⟨g, 0, none⟩) 24 512 ∧ FpI w g ([112, 101, 97, 116] ++ [(kind : Int), 0, 0, 0] ++ beL ep 8 ++ beL seq 8) A m c ds kind ep seq W)
set_option maxRecDepth 100000 in
set_option maxHeartbeats 4000000 in
theorem fr_put (kind ep seq : Nat) (hk : kind < 256) (hep : ep ≤ 1099511627776) (hseq : seq ≤ 1099511627776) {A : Option Addr} {m c : Nat} {ds : List Int} (hs : Src w 1 (.slice A m c) m (bV ds)) (hm : m ≤ 480) (hd : ∀ z ∈ ds, 0 ≤ z ∧ z < 256) :
    Calls Tryz.prog 73 #[.agg (fmC kind ep seq A m c).toArray] w (FpPost w kind ep seq ds) := by
  have hdl : ds.length = m := by obtain ⟨_, _, _, hl, _⟩ := hs; rw [bV_len] at hl; omega
  have hA : 0 < m → ∀ a, A = some a → a.block < w.heap.size := fun hm0 a ha => by
    obtain ⟨A', c', e, hl, hc⟩ := hs
    injection e with e
    subst e
    obtain ⟨b, off, e2, hlt, _⟩ := hc hm0
    rw [ha] at e2
    injection e2 with e2
    rw [e2]
    exact hlt
  have HA := Lib.hid hA
  have HS := Lib.hid hs
  have HD := Lib.hid (And.intro hdl hd)
  have e1 : ¬ (kind : Int) < 0 := by omega
  have e2 : ¬ (255 : Int) < (kind : Int) := by omega
  have e3 : ¬ (32768 : Int) < (m : Int) := by omega
  have hkb : 0 ≤ (kind : Int) ∧ (kind : Int) < 256 := by omega
  have hepb : 0 ≤ (ep : Int) ∧ (ep : Int) ≤ 1099511627776 := by omega
  have hsqb : 0 ≤ (seq : Int) ∧ (seq : Int) ≤ 1099511627776 := by omega
  clear hs hdl hd hA
  go_enter Tryz.func73, Tryz.ntmps73
  go_upto_region 5 with (first
    | (refine wpl_box rfl 155 (.tmp 0) rfl _ rfl ?_; intro w1 hk1 hg hz; have K := Lib.hid hk1; have L1 := Lib.hid (bl_n (Below.refl _ _) hg); have S1 := Lib.hid (HS.out.below L1.out); have c0 := hk1.cell (i := 0) (v := .int .i64 (kind : Int)) rfl; have c1 := hk1.cell (i := 1) (v := .int .i64 (ep : Int)) rfl; have c2 := hk1.cell (i := 2) (v := .int .i64 (seq : Int)) rfl; have c3 := hk1.cell (i := 3) (v := .slice A m c) rfl; clear hk1 hg hz)
    | (go_at_call 111; (with_reducible show Calls _ _ #[.int .i64 (ep : Int)] _ _); refine (fr_may ep hep _).mono ?_; rintro e w2 ⟨rfl, rfl⟩)
    | (go_at_call 111; (with_reducible show Calls _ _ #[.int .i64 (seq : Int)] _ _); refine (fr_may seq hseq _).mono ?_; rintro e w2 ⟨rfl, rfl⟩))
  go_upto_region 6 with (first
    | (go_at_call 112; refine (fr_sectors m hm _).mono ?_; rintro e w2 ⟨rfl, rfl⟩)
    | (refine mk_bytes rfl (.tmp 38) (.tmp 38) (by rfl) w.heap.size 512 512 512 (by rfl) (by rfl) (by rfl) (by rfl) (by omega) L1.out.size ?_; intro w2 ho hg; have O2 := Lib.hid (own_full ho); have L2 := Lib.hid (bl_n (Below.refl w1.heap.size w1) hg); clear ho hg; simp only [Act.put, List.setIfInBounds_toArray, List.set_cons_zero, List.set_cons_succ]))
  have F2 := Lib.hid (show FpI w w1.heap.size [] A m c ds kind ep seq w2 from ⟨O2.out, K.out.below L2.out K.out.lt, S1.out.below L2.out, below_chain L1.out L2.out, K.out.lt⟩)
  generalize w1.heap.size = g at *
  clear O2 L2 K S1 L1 c0 c1 c2 c3 e1 e2 e3
  go_upto_region 7 with (refine wpl_app_peat0 rfl (.tmp 41) (by rfl) g (by rfl) F2.out.out ?_; intro w3 hb hg hz; have F3 := Lib.hid (F2.out.turn HA.out hb (tch_g hg)); clear hb hg hz; simp only [Act.put, List.setIfInBounds_toArray, List.set_cons_zero, List.set_cons_succ])
  have c0 : w3.cell? ⟨w.heap.size, 0, none⟩ = some (.int .i64 (kind : Int)) := F3.out.box.cell rfl
  go_upto_region 8 with (refine wpl_app_spare rfl (.tmp 43) (.tmp 47) (by rfl) g 4 512 (frZ [112, 101, 97, 116]) (by rfl) (F3.out.out.alloc _) _ 4 [Value.int .u8 (kind : Int), .int .u8 0, .int .u8 0, .int .u8 0] (by rfl) (src_four (Blk.made _ _ _) 4) (by omega) (by intro v hv; simp at hv; rcases hv with rfl | rfl <;> rfl) (by omega) (by rw [frZ_len _ (by simp)]; omega) ?_; intro w4 hb hg hz; have F4 := Lib.hid ((F3.out.alloc ((Below.refl _ w3).alloc (Nat.le_refl _) _)).turn (P' := [112, 101, 97, 116] ++ [(kind : Int), 0, 0, 0]) HA.out (by rw [← frZ_app _ _ (by simp)]; exact hb) (tch_g hg)); clear hb hg hz; simp only [Act.put, List.setIfInBounds_toArray, List.set_cons_zero, List.set_cons_succ])
  have d1 : w4.cell? ⟨w.heap.size, 1, none⟩ = some (.int .i64 (ep : Int)) := F4.out.box.cell rfl
  have d2 : w4.cell? ⟨w.heap.size, 2, none⟩ = some (.int .i64 (seq : Int)) := F4.out.box.cell rfl
  go_upto_region 9 with fail
  go_loopg [54, 5] 2 (fun gk iv bv W => FpL w g A m c ds kind ep seq gk iv bv W)
  case atStart => exact .inl ⟨rfl, rfl, rfl, F4.out⟩
  case round =>
    clear d1 d2 c0 F2 F3 F4
    rcases hrel with ⟨rfl, rfl, rfl, hF⟩ | ⟨rfl, rfl, rfl, hF⟩ | ⟨rfl, rfl, rfl, hF⟩
    · have F := Lib.hid hF
      clear hF
      have ix := idx2 (ep : Int) (seq : Int) 0 0 (ep : Int) rfl (by omega) rfl
      go_wp2_with (go_at_call 113; refine (fr_num F.out HA.out 8 8 16 8 (by simp) rfl (by omega) rfl (by omega) ep (by omega)).mono ?_; rintro e w5 ⟨rfl, hF⟩; have F5 := Lib.hid hF; clear hF)
      go_roundg 1
      case measure => omega
      case rel => exact .inr (.inl ⟨rfl, rfl, rfl, F5.out⟩)
    · have F := Lib.hid hF
      clear hF
      have ix := idx2 (ep : Int) (seq : Int) 1 1 (seq : Int) rfl (by omega) rfl
      go_wp2_with (go_at_call 113; refine (fr_num F.out HA.out 16 8 24 8 (by simp [beL_len]) rfl (by omega) rfl (by omega) seq (by omega)).mono ?_; rintro e w5 ⟨rfl, hF⟩; have F5 := Lib.hid hF; clear hF)
      go_roundg 0
      case measure => omega
      case rel => exact .inr (.inr ⟨rfl, rfl, rfl, F5.out⟩)
    · have F := Lib.hid hF
      clear hF
      have d3 : wr.cell? ⟨w.heap.size, 3, none⟩ = some (.slice A m c) := F.out.box.cell rfl
      go_upto_region 14 with (go_at_call 113; refine (fr_num F.out HA.out 24 4 28 4 (by simp [beL_len]) rfl (by omega) rfl (by omega) m (by omega)).mono ?_; rintro e w5 ⟨rfl, hF⟩; have F5 := Lib.hid hF; clear hF)
      have d5 : w5.cell? ⟨w.heap.size, 3, none⟩ = some (.slice A m c) := F5.out.box.cell rfl
      obtain ⟨P, hP⟩ : ∃ P, P = [112, 101, 97, 116] ++ [(kind : Int), 0, 0, 0] ++ beL ep 8 ++ beL seq 8 ++ beL m 4 := ⟨_, rfl⟩
      rw [← hP] at F5
      have HPl := Lib.hid (show P.length = 28 by rw [hP]; simp [beL_len])
      have HPb := Lib.hid (show P ++ ds = bodyL kind ep seq ds by rw [hP, ← HD.out.1]; rfl)
      clear hP F d3
      go_upto_region 15 with (refine wpl_app_bytes rfl (.tmp 68) (.tmp 70) (by rfl) g 28 512 (frZ P) (by rfl) F5.out.out A m c (bV ds) (by rfl) F5.out.src (bV_one _) (by omega) (by rw [frZ_len _ (by rw [HPl.out]; omega)]; omega) ?_; intro w6 hb hT; have F6 := Lib.hid (F5.out.turn (P' := P ++ ds) HA.out (by rw [← frZ_app _ _ (by rw [HPl.out, HD.out.1]; omega), HPl.out, HD.out.1]; exact hb) hT); clear hb hT; simp only [Act.put, List.setIfInBounds_toArray, List.set_cons_zero, List.set_cons_succ])
      rw [HPb.out] at F6
      obtain ⟨x, hx⟩ : ∃ x : Nat, x = (crcB (bodyL kind ep seq ds)).toNat := ⟨_, rfl⟩
      have HX := Lib.hid hx
      have hxb : 0 ≤ (x : Int) ∧ (x : Int) < 4294967296 := by have := (crcB (bodyL kind ep seq ds)).isLt; omega
      have hwv : wv (crcB (bodyL kind ep seq ds)) = (x : Int) := by rw [hx]; rfl
      have HC := Lib.hid (fun W (hW : FpI w g (bodyL kind ep seq ds) A m c ds kind ep seq W) => by
        have := crcsum_any (bodyL kind ep seq ds) (some ⟨g, 0, none⟩) (28 + m) 512 W (by have h1 := frZ_rd hW.out; rw [bodyL_len, HD.out.1] at h1; exact h1) (bodyL_bytes hk HD.out.2) (by omega)
        rw [hwv] at this
        exact this)
      clear hx hwv
      go_wp2_with (first
        | (go_at_call 113; refine (fr_num F7.out HA.out (28 + m) 4 (28 + m + 4) 4 (by rw [bodyL_len, HD.out.1]) rfl (by omega) rfl (by omega) x (by omega)).mono ?_; rintro e w8 ⟨rfl, hF⟩; have F8 := Lib.hid hF; clear hF)
        | (go_at_call 114; refine (HC.out _ F6.out).mono ?_; rintro e w7 ⟨rfl, hb⟩; have F7 := Lib.hid (F6.out.alloc hb); clear hb))
      go_ret2
      exact ⟨g, rfl, by rw [frL_val]; unfold sumL; rw [← HX.out]; exact F8.out.out, by have := F8.out.ge; omega, F8.out.low⟩
end
end Go.Proofs.YtpadifphnbdbpaaGreat
namespace Go.Proofs.YtpadifphnbdbpaaGreat
open Go.RowKit Go.Maps
set_option linter.unusedVariables false
set_option linter.unusedSimpArgs false

theorem byte_inj {x y : Int} (hx : 0 ≤ x ∧ x < 256) (hy : 0 ≤ y ∧ y < 256) (h : UInt8.ofNat x.toNat = UInt8.ofNat y.toNat) : x = y := by
  have := congrArg UInt8.toNat h
  simp only [UInt8.toNat_ofNat'] at this
  omega
theorem bytes_inj : ∀ (xs ys : List Int), (∀ z ∈ xs, 0 ≤ z ∧ z < 256) → (∀ z ∈ ys, 0 ≤ z ∧ z < 256) → xs.map (fun n => UInt8.ofNat n.toNat) = ys.map (fun n => UInt8.ofNat n.toNat) → xs = ys
  | [], [], _, _, _ => rfl
  | [], y :: ys, _, _, h => by simp at h
  | x :: xs, [], _, _, h => by simp at h
  | x :: xs, y :: ys, hx, hy, h => by
    simp only [List.map_cons, List.cons.injEq] at h
    rw [byte_inj (hx x (by simp)) (hy y (by simp)) h.1, bytes_inj xs ys (fun z hz => hx z (by simp [hz])) (fun z hz => hy z (by simp [hz])) h.2]
theorem conv_rd {w : World} {b off n c : Nat} {xs : List Int} (h : RdI .u8 w (some ⟨b, off, none⟩) n xs) :
    (convert 78 9 (.slice (some ⟨b, off, none⟩) n c)).run Tryz.prog w = .ok (.string ⟨(xs.map fun n => UInt8.ofNat n.toNat).toArray⟩) w := by
  refine run_convert_bytes_arg (P := Tryz.prog) w 78 5 Tryz.underlying78 Tryz.underlying5 b off n c xs h.1 (fun i hi => ?_) 9 Tryz.underlying9
  obtain ⟨b2, o2, e, _, hc⟩ := h.2 (by omega)
  simp only [Option.some.injEq, Addr.mk.injEq] at e
  obtain ⟨rfl, rfl, _⟩ := e
  exact hc i hi
theorem equal_any (xs ys : List Int) (A B : Option Addr) (n m c d : Nat) (w : World) (hr : RdI .u8 w A n xs) (hs : RdI .u8 w B m ys) (hn : 0 < n) (hm : 0 < m) (hX : ∀ z ∈ xs, 0 ≤ z ∧ z < 256) (hY : ∀ z ∈ ys, 0 ≤ z ∧ z < 256) :
    Calls Tryz.prog 91 #[.slice A n c, .slice B m d] w fun e w' => e = .returned (.bool (decide (xs = ys))) ∧ w' = w := by
  obtain ⟨b1, o1, rfl, _, _⟩ := hr.2 hn
  obtain ⟨b2, o2, rfl, _, _⟩ := hs.2 hm
  have c1 := conv_rd (c := c) hr
  have c2 := conv_rd (c := d) hs
  obtain ⟨s, hs1⟩ : ∃ s : ByteArray, s = ⟨(xs.map fun n => UInt8.ofNat n.toNat).toArray⟩ := ⟨_, rfl⟩
  obtain ⟨t, ht1⟩ : ∃ t : ByteArray, t = ⟨(ys.map fun n => UInt8.ofNat n.toNat).toArray⟩ := ⟨_, rfl⟩
  rw [← hs1] at c1
  rw [← ht1] at c2
  have hst : (s.toList == t.toList) = decide (xs = ys) := by
    rw [ByteArray.toList_eq, ByteArray.toList_eq, hs1, ht1]
    by_cases e : xs = ys
    · subst e
      simp
    · rw [decide_eq_false e]
      apply beq_eq_false_iff_ne.2
      intro h
      exact e (bytes_inj xs ys hX hY (by simpa using h))
  have HST := Lib.hid hst
  clear hst hs1 ht1
  go_enter Tryz.func91, Tryz.ntmps91
  go_wp2
  go_ret
  refine ⟨?_, rfl⟩
  rw [← HST.out]
  rfl
theorem saidL_ltA : ∀ (b : List Int) (a : Nat), (∀ z ∈ b, 0 ≤ z ∧ z < 256) → b.foldl (fun n z => 256 * n + z.toNat) a < (a + 1) * 256 ^ b.length
  | [], a, _ => by simp
  | z :: b, a, h => by
    have h1 := saidL_ltA b (256 * a + z.toNat) fun y hy => h y (by simp [hy])
    have h2 := h z (by simp)
    have h3 : (256 * a + z.toNat + 1) * 256 ^ b.length ≤ (256 * (a + 1)) * 256 ^ b.length := Nat.mul_le_mul_right _ (by omega)
    rw [List.foldl_cons, List.length_cons, Nat.pow_succ]
    have h4 : (a + 1) * (256 ^ b.length * 256) = (256 * (a + 1)) * 256 ^ b.length := by rw [Nat.mul_comm (256 ^ b.length) 256, ← Nat.mul_assoc, Nat.mul_comm (a + 1) 256]
    omega
theorem saidL_lt (b : List Int) (h : ∀ z ∈ b, 0 ≤ z ∧ z < 256) : saidL b < 256 ^ b.length := by
  have := saidL_ltA b 0 h
  unfold saidL
  omega
theorem or_saidL (x z : Nat) (hx : x < 72057594037927936) (hz : z < 256) : bits .or .u64 ((x : Int) * 256) (z : Int) = ((256 * x + z : Nat) : Int) := by
  have e : bits .or .u64 ((x : Int) * 256) (z : Int) = IntKind.u64.wrap (((BitVec.ofInt 64 ((x : Int) * 256)) ||| (BitVec.ofInt 64 (z : Int))).toNat : Int) := rfl
  rw [e, show ((x : Int) * 256) = ((256 * x : Nat) : Int) by omega, BitVec.ofInt_natCast, BitVec.ofInt_natCast, BitVec.toNat_or, BitVec.toNat_ofNat, BitVec.toNat_ofNat, Nat.mod_eq_of_lt (by omega), Nat.mod_eq_of_lt (by omega)]
  have := Nat.two_pow_add_eq_or_of_lt (i := 8) (b := z) hz x
  rw [show (256 : Nat) = 2 ^ 8 from rfl, ← this, IntKind.wrap_u64]
  omega
def SaidLI (b : List Int) (n : Nat) (w : World) (m : Nat) (iv nv : Value) (wr : World) : Prop :=
  ∃ i : Nat, iv = .int .i64 ((i : Nat) : Int) ∧ i ≤ n ∧ i + m ≤ n ∧ n ≤ i + m ∧ nv = .int .u64 ((saidL (b.take i) : Nat) : Int) ∧ wr = w
set_option maxHeartbeats 1600000 in
theorem fr_said (b : List Int) (A : Option Addr) (n c : Nat) (w : World) (hr : RdI .u8 w A n b) (hB : ∀ z ∈ b, 0 ≤ z ∧ z < 256) (hn : n ≤ 8) :
    Calls Tryz.prog 161 #[.slice A n c] w fun e w' => e = .returned (.int .u64 ((saidL b : Nat) : Int)) ∧ w' = w := by
  have HR := Lib.hid hr
  have HBy := Lib.hid hB
  have hbl := Lib.hid hr.1
  clear hr hB
  go_enter Tryz.func161, Tryz.ntmps161
  go_wp2
  go_loopg [7, 2, 4] n (fun m iv nv _ wr => SaidLI b n w m iv nv wr)
  case atStart => exact ⟨0, rfl, by omega, by omega, by omega, rfl, rfl⟩
  case round =>
    obtain ⟨i, rfl, hi, k1, k2, rfl, rfl⟩ := hrel
    by_cases hlt : i < n
    · have hltI : (i : Int) < (n : Int) := by omega
      obtain ⟨bb, off, hAe, hbb, hce⟩ := HR.out.2 (by omega)
      subst hAe
      have cI := hce i hlt
      have bI := HBy.out (b.getD i 0) (by rw [List.getD_eq_getElem?_getD, List.getElem?_eq_getElem (by have := hbl.out; omega)]; exact List.getElem_mem _)
      have hlen : i < b.length := by have := hbl.out; omega
      have hs : saidL (b.take (i + 1)) = 256 * saidL (b.take i) + (b.getD i 0).toNat := by
        rw [List.take_add_one, List.getElem?_eq_getElem hlen, Option.toList_some, saidL_snoc, List.getD_eq_getElem?_getD, List.getElem?_eq_getElem hlen]
        rfl
      have HSt := Lib.hid hs
      have hx := saidL_lt (b.take i) (fun z hz => HBy.out z (List.mem_of_mem_take hz))
      have hx2 : saidL (b.take i) < 72057594037927936 := by
        have : 256 ^ (b.take i).length ≤ 256 ^ 7 := Nat.pow_le_pow_right (by omega) (by rw [List.length_take]; omega)
        omega
      clear hce hs hx hlen
      generalize b.getD i 0 = z at *
      obtain ⟨z, rfl⟩ : ∃ y : Nat, z = y := ⟨z.toNat, by omega⟩
      rw [Int.toNat_natCast] at HSt
      generalize saidL (b.take i) = x at *
      have eO := or_saidL x z hx2 (by omega)
      have eW : IntKind.u64.wrap ((x : Int) * 256) = (x : Int) * 256 := by rw [IntKind.wrap_u64]; omega
      go_wp2
      go_roundg (gk - 1)
      case measure => omega
      case rel => exact ⟨i + 1, by go_num, by omega, by omega, by omega, by rw [HSt.out]; go_num, rfl⟩
    · have hltI : ¬ (i : Int) < (n : Int) := by omega
      obtain rfl : i = n := by omega
      go_wp2
      go_ret
      refine ⟨?_, rfl⟩
      rw [List.take_of_length_le (by have := hbl.out; omega)]
      rfl
/-- b begins with p. -/
theorem bprefix_any (xs ys : List Int) (A B : Option Addr) (n m c d : Nat) (w : World) (hr : RdI .u8 w A n xs) (hs : RdI .u8 w B m ys) (hm : 0 < m) (hnm : m ≤ n) (hc : n ≤ c) (hX : ∀ z ∈ xs, 0 ≤ z ∧ z < 256) (hY : ∀ z ∈ ys, 0 ≤ z ∧ z < 256) (hn : n ≤ 1000000) :
    Calls Tryz.prog 162 #[.slice A n c, .slice B m d] w fun e w' => e = .returned (.bool (decide (xs.take m = ys))) ∧ w' = w := by
  have HE := Lib.hid (equal_any (xs.take m) ys A B m m c d w (rd_take hr m hnm) hs hm hm (fun z hz => hX z (List.mem_of_mem_take hz)) hY)
  have h1 : (m : Int) ≤ (n : Int) := by omega
  have h2 : (m : Int) ≤ (c : Int) := by omega
  obtain ⟨b1, o1, rfl, _, _⟩ := hr.2 (by omega)
  clear hr hs hX hY
  go_enter Tryz.func162, Tryz.ntmps162
  go_wp2_with (go_at_call 91; refine HE.out.mono ?_; rintro e w1 ⟨rfl, rfl⟩)
  go_ret
  exact ⟨rfl, rfl⟩
end Go.Proofs.YtpadifphnbdbpaaGreat
namespace Go.Proofs.YtpadifphnbdbpaaGreat
open Go.RowKit Go.Maps
set_option linter.unusedVariables false
set_option linter.unusedSimpArgs false
theorem results_blk_tmp2 {P : Program} {w : World} {fn : Func} {p u v : Tmp} {ty : TypeId} (h : fn.results = #[.cell p ty, .tmp u, .tmp v]) (tmps : Array Value) (g : Nat) (hp : tmps.getD p undef = .pointer (some ⟨g, 0, none⟩)) (t : TypeId) (cs : Array Value) (hb : Blk w g t cs)
    (d : TypeDesc) (hu : P.underlying ty = some d) (hd : d.isRow = true) (m : Nat) (hi : (P.info? ty).map (·.size) = some m) (hm : cs.size = m) :
    (results fn tmps).run P w = .ok (.tuple #[.agg cs, tmps.getD u undef, tmps.getD v undef]) w := by
  have hl := run_loadVar_mid (P := P) w g 0 ty cs.toList d hb.range hu hd (by rw [hi]; simp [hm])
  have hp' : tmps[p]?.getD undef = .pointer (some ⟨g, 0, none⟩) := by simpa using hp
  simp only [Array.toArray_toList] at hl
  simp [results, h, hp', asAddr, hl]
theorem rd_full {W : World} {g n : Nat} {ys : List Int} (hB : Blk W g 5 (bV ys).toArray) (hl : ys.length = n) : RdI .u8 W (some ⟨g, 0, none⟩) n ys := by
  refine ⟨hl, fun _ => ⟨g, 0, rfl, hB.lt, fun j hj => ?_⟩⟩
  rw [Nat.zero_add]
  refine hB.cell ?_
  rw [List.getElem?_toArray, bV, List.getElem?_map, List.getElem?_eq_getElem (by omega), List.getD_eq_getElem?_getD, List.getElem?_eq_getElem (by omega)]
  rfl
theorem rd_sub {w : World} {b off n p q : Nat} {xs : List Int} (h : RdI .u8 w (some ⟨b, off, none⟩) n xs) (hq : p + q ≤ n) : RdI .u8 w (some ⟨b, off + p, none⟩) q ((xs.drop p).take q) := by
  have h1 := h.drop8 (k := p) (by omega)
  rcases Nat.eq_zero_or_pos q with rfl | hq0
  · exact ⟨by simp, fun h => by omega⟩
  · exact rd_take h1 q (by omega)
theorem src_rd {w : World} {b off n c : Nat} {xs : List Int} (h : RdI .u8 w (some ⟨b, off, none⟩) n xs) : Src w 1 (.slice (some ⟨b, off, none⟩) n c) n (bV xs) := by
  refine ⟨_, c, rfl, by rw [bV_len, h.1, Nat.mul_one], fun hn => ?_⟩
  obtain ⟨b2, o2, e, hlt, hc⟩ := h.2 hn
  injection e with e
  injection e with e1 e2
  subst e1 e2
  refine ⟨b, off, rfl, hlt, fun j y hy => ?_⟩
  have hj : j < xs.length := by have := (List.getElem?_eq_some_iff.1 hy).1; rwa [bV_len] at this
  have := hc j (by have := h.1; omega)
  rw [this]
  unfold bV at hy
  rw [List.getElem?_map, List.getElem?_eq_getElem hj] at hy
  rw [List.getD_eq_getElem?_getD, List.getElem?_eq_getElem hj]
  simpa using hy
def subL (xs : List Int) (p q : Nat) : List Int := (xs.drop p).take q
def FgPost (w : World) (xs : List Int) (kind ep sq n : Nat) (e : Ending) (w' : World) : Prop :=
  Below w.heap.size w w' ∧ ((xs = frL kind ep sq (subL xs 28 n) ∧ ∃ A c, e = .returned (.tuple #[.agg (fmC kind ep sq A n c).toArray, .int .i64 1, .int .i64 0]) ∧ Src w' 1 (.slice A n c) n (bV (subL xs 28 n)) ∧ n ≤ c ∧ ∀ a, A = some a → w.heap.size ≤ a.block) ∨
    (xs ≠ frL kind ep sq (subL xs 28 n) ∧ e = .returned (.tuple #[.agg (fmC 0 0 0 none 0 0).toArray, .int .i64 0, .int .i64 4])))
theorem frL_len (kind ep sq : Nat) (ds : List Int) (h : ds.length ≤ 480) : (frL kind ep sq ds).length = 512 := by
  unfold frL sumL
  rw [List.length_append, List.length_append, bodyL_len, beL_len, List.length_replicate]
  omega
theorem frL_bytes {kind ep sq : Nat} {ds : List Int} (hk : kind < 256) (hd : ∀ z ∈ ds, 0 ≤ z ∧ z < 256) : ∀ z ∈ frL kind ep sq ds, 0 ≤ z ∧ z < 256 := by
  intro z hz
  unfold frL sumL at hz
  simp only [List.mem_append] at hz
  rcases hz with (hz | hz) | hz
  · exact bodyL_bytes hk hd z hz
  · exact beL_bytes _ _ z hz
  · have := List.eq_of_mem_replicate hz
    omega
theorem fg_prefix (xs ys : List Int) (b off cap g : Nat) (W : World) (hr : RdI .u8 W (some ⟨b, off, none⟩) 512 xs) (hX : ∀ z ∈ xs, 0 ≤ z ∧ z < 256) (hc : 512 ≤ cap) (hB : Blk W g 5 (bV ys).toArray) (hY : ∀ z ∈ ys, 0 ≤ z ∧ z < 256) (hl : ys.length = 512) :
    Calls Tryz.prog 162 #[.slice (some ⟨b, off, none⟩) 512 cap, .slice (some ⟨g, 0, none⟩) 512 512] W fun e w' => e = .returned (.bool (decide (xs = ys))) ∧ w' = W := by
  have := bprefix_any xs ys (some ⟨b, off, none⟩) (some ⟨g, 0, none⟩) 512 512 cap 512 W hr (rd_full hB hl) (by omega) (by omega) hc hX hY (by omega)
  rw [List.take_of_length_le (by rw [hr.1]; exact Nat.le_refl _)] at this
  exact this
def fstV : Value → Value | .agg cs => cs.getD 0 default | v => v
def sndV : Value → Value | .agg cs => cs.getD 1 default | v => v
theorem cell_below {w w' : World} {a : Addr} {v : Value} (h : w.cell? a = some v) (hb : Below w.heap.size w w') : w'.cell? a = some v := by
  rw [← h]
  refine World.cell?_of_block (hb.block _ ?_)
  rcases Nat.lt_or_ge a.block w.heap.size with hl | hl
  · exact hl
  · have : w.heap[a.block]? = none := Array.getElem?_eq_none hl
    simp [World.cell?, this] at h
theorem fstV_two (a b : Value) : fstV (.agg #[a, b]) = a := rfl
theorem sndV_two (a b : Value) : sndV (.agg #[a, b]) = b := rfl
theorem src_tch {w w' : World} {T : List Nat} {sz m c : Nat} {A : Option Addr} {ys : List Value} (h : Src w sz (.slice A m c) m ys) (hT : Tch T w w') (hne : 0 < m → ∀ a, A = some a → a.block ∉ T) : Src w' sz (.slice A m c) m ys := by
  obtain ⟨A', c', e, hl, hc⟩ := h
  refine ⟨A', c', e, hl, fun hm => ?_⟩
  injection e with e
  subst e
  obtain ⟨b, off, e2, hlt, hcell⟩ := hc hm
  subst e2
  have hs : w'.heap[b]? = w.heap[b]? := hT.block b hlt (hne hm _ rfl)
  exact ⟨b, off, rfl, Nat.lt_of_lt_of_le hlt hT.size, fun j y hy => (World.cell?_of_block (a := ⟨b, off + j, none⟩) hs).trans (hcell j y hy)⟩
theorem own_ge {w : World} {base : Nat} {e : TypeId} {n c : Nat} {A : Option Addr} {xs : List Value} (h : w.ownsRow base e 1 (.slice A n c) n xs) (a : Addr) (ha : A = some a) : base ≤ a.block := by
  rcases h.2 with ⟨e1, e2⟩ | ⟨g', cap, cur, e1, h1, hg, h2, _, hs, ht⟩
  · injection e1 with e1
    rw [e1] at ha
    cases ha
  · injection e1 with e1
    rw [e1] at ha
    injection ha with ha
    subst ha
    exact h1
def FgR (w1 : World) (ys : List Value) (kind ep sq n : Nat) (v : Value) (w' : World) : Prop := ∃ A c f, v = .agg #[.slice A n c, .pointer (some ⟨f, 0, none⟩)] ∧ Src w' 1 (.slice A n c) n ys ∧ Blk w' f 155 (fmC kind ep sq A n c).toArray ∧ Below w1.heap.size w1 w' ∧ w1.heap.size ≤ f ∧ n ≤ c ∧ (∀ a, A = some a → w1.heap.size ≤ a.block)
set_option maxRecDepth 100000 in
set_option maxHeartbeats 2000000 in
theorem fr_get (xs : List Int) (b off cap : Nat) (w : World) (hr : RdI .u8 w (some ⟨b, off, none⟩) 512 xs) (hX : ∀ z ∈ xs, 0 ≤ z ∧ z < 256) (hc : 512 ≤ cap) (kind ep sq n : Nat) (hk : xs[4]? = some (kind : Int)) (hep : saidL (subL xs 8 8) = ep) (hsq : saidL (subL xs 16 8) = sq) (hn : saidL (subL xs 24 4) = n) (hep2 : ep ≤ 1099511627776) (hsq2 : sq ≤ 1099511627776) (hn2 : n ≤ 480) :
    Calls Tryz.prog 127 #[.slice (some ⟨b, off, none⟩) 512 cap] w (FgPost w xs kind ep sq n) := by
  have HR := Lib.hid hr
  have HX := Lib.hid hX
  have hcI : (512 : Int) ≤ (cap : Int) := by omega
  have HK := Lib.hid hk
  have S1 := Lib.hid (fun W c (h : RdI .u8 W (some ⟨b, off, none⟩) 512 xs) => by have := fr_said (subL xs 8 8) (some ⟨b, off + 8, none⟩) 8 c W (rd_sub h (by omega)) (fun z hz => hX z (List.mem_of_mem_drop (List.mem_of_mem_take hz))) (by omega); rw [hep] at this; exact this)
  have S2 := Lib.hid (fun W c (h : RdI .u8 W (some ⟨b, off, none⟩) 512 xs) => by have := fr_said (subL xs 16 8) (some ⟨b, off + 16, none⟩) 8 c W (rd_sub h (by omega)) (fun z hz => hX z (List.mem_of_mem_drop (List.mem_of_mem_take hz))) (by omega); rw [hsq] at this; exact this)
  have S3 := Lib.hid (fun W c (h : RdI .u8 W (some ⟨b, off, none⟩) 512 xs) => by have := fr_said (subL xs 24 4) (some ⟨b, off + 24, none⟩) 4 c W (rd_sub h (by omega)) (fun z hz => hX z (List.mem_of_mem_drop (List.mem_of_mem_take hz))) (by omega); rw [hn] at this; exact this)
  clear hr hX hk hep hsq hn
  go_enter Tryz.func127, Tryz.ntmps127
  go_upto_region 3 with (refine wpl_alloc rfl 155 (by rfl) Tryz.zeroValue155 4 (by rfl) ?_; intro w1 cs1 hk hc hg hz; have K := Lib.hid hk; have C1 := Lib.hid hc; have L1 := Lib.hid (bl_n (Below.refl _ _) hg); clear hk hc hg hz; simp only [Act.put, List.setIfInBounds_toArray, List.set_cons_zero, List.set_cons_succ])
  have R1 := Lib.hid (show RdI .u8 w1.drew (some ⟨b, off, none⟩) 512 xs from HR.out.below (by have := L1.out.drew; exact this))
  have hnu : ¬ (32768 : Int) < (n : Int) := by omega
  have hepu : ¬ (1099511627776 : Int) < (ep : Int) := by omega
  have hsqu : ¬ (1099511627776 : Int) < (sq : Int) := by omega
  refine wp_region_qs (fun _ _ => True) [(0, some 3), (1, some 2), (3, some 3), (4, some 2), (6, some 3), (7, some 2), (2, none), (5, none), (8, none), (9, some 3), (10, some 3), (11, some 3)] (by kernel_rfl) (by kernel_rfl) (by kernel_rfl) (by kernel_rfl) (by kernel_rfl) (fun _ _ _ _ _ h => h) trivial ?_
  simp only [List.map_cons, List.map_nil, List.getD_cons_succ, List.getD_cons_zero]
  (repeat (first | (refine qs_now (v := ?_) (by rfl) ?_ ?_; rotate_left 1; (· (intro w' hS; go_simp; (try (simp only [↓IntWalk.iteOmega]; go_simp)); (try simp (disch := omega) only [IntWalk.i64_in]); try with_reducible rfl)); simp only [Act.put, List.setIfInBounds_toArray, List.set_cons_zero, List.set_cons_succ]) | (refine qs_run (v := ?_) (by rfl) ?_ ?_; rotate_left 1; (· (intro j w' hS; go_simp; (try (simp only [↓IntWalk.iteOmega]; go_simp)); (try simp (disch := omega) only [IntWalk.i64_in]); try with_reducible rfl)); simp only [Act.put, List.setIfInBounds_toArray, List.set_cons_zero, List.set_cons_succ]) | (refine qs_mid (v := ?_) (by rfl) ?_ ?_; rotate_left 1; (· (intro j w' hj1 hj2 hS; go_simp; (try (simp only [↓IntWalk.iteOmega]; go_simp)); (try simp (disch := omega) only [IntWalk.i64_in]); try with_reducible rfl)); simp only [Act.put, List.setIfInBounds_toArray, List.set_cons_zero, List.set_cons_succ]) | (refine qs_skip (by rfl) ?_; simp only [Act.put, List.setIfInBounds_toArray, List.set_cons_zero, List.set_cons_succ])))
  refine qs_act ?_
  go_wp2_with (go_at_call 161; refine (S1.out _ _ R1.out).mono ?_; rintro e w4 ⟨rfl, rfl⟩)
  refine ⟨trivial, ?_⟩
  refine qs_act ?_
  go_wp2_with (go_at_call 161; refine (S2.out _ _ R1.out).mono ?_; rintro e w4 ⟨rfl, rfl⟩)
  refine ⟨trivial, ?_⟩
  refine qs_act ?_
  go_wp2_with (go_at_call 161; refine (S3.out _ _ R1.out).mono ?_; rintro e w4 ⟨rfl, rfl⟩)
  refine ⟨trivial, ?_⟩
  (repeat (first | (refine qs_now (v := ?_) (by rfl) ?_ ?_; rotate_left 1; (· (intro w' hS; go_simp; (try (simp only [↓IntWalk.iteOmega]; go_simp)); (try simp (disch := omega) only [IntWalk.i64_in]); try with_reducible rfl)); simp only [Act.put, List.setIfInBounds_toArray, List.set_cons_zero, List.set_cons_succ]) | (refine qs_run (v := ?_) (by rfl) ?_ ?_; rotate_left 1; (· (intro j w' hS; go_simp; (try (simp only [↓IntWalk.iteOmega]; go_simp)); (try simp (disch := omega) only [IntWalk.i64_in]); try with_reducible rfl)); simp only [Act.put, List.setIfInBounds_toArray, List.set_cons_zero, List.set_cons_succ]) | (refine qs_mid (v := ?_) (by rfl) ?_ ?_; rotate_left 1; (· (intro j w' hj1 hj2 hS; go_simp; (try (simp only [↓IntWalk.iteOmega]; go_simp)); (try simp (disch := omega) only [IntWalk.i64_in]); try with_reducible rfl)); simp only [Act.put, List.setIfInBounds_toArray, List.set_cons_zero, List.set_cons_succ]) | (refine qs_skip (by rfl) ?_; simp only [Act.put, List.setIfInBounds_toArray, List.set_cons_zero, List.set_cons_succ])))
  refine qs_nil ?_
  go_upto_region 6 with (go_at_call 112; refine (fr_sectors n hn2 _).mono ?_; rintro e w2 ⟨rfl, rfl⟩)
  have CK := Lib.hid (show w1.cell? ⟨b, off + 4, none⟩ = some (.int .u8 (kind : Int)) by
    obtain ⟨b2, o2, e, hlt, hcell⟩ := (HR.out.below L1.out).2 (by omega)
    injection e with e
    injection e with e1 e2
    subst e1 e2
    have := hcell 4 (by omega)
    rwa [List.getD_eq_getElem?_getD, HK.out] at this)
  have hkb : 0 ≤ (kind : Int) ∧ (kind : Int) < 256 := HX.out _ (List.mem_of_getElem? HK.out)
  have hadd : IntKind.u64.wrap (28 + (n : Int)) = 28 + (n : Int) := by rw [IntKind.wrap_u64]; omega
  have CL := Lib.hid (fun W (hb : Below w.heap.size w W) => bclone_any ⟨b, off + 28, none⟩ n (cap - 28) (src_rd (rd_sub (q := n) (HR.out.below hb) (by omega))) (bV_one _) (by omega))
  refine wp_region_two (fun _ w' => w'.cell? ⟨b, off + 4, none⟩ = some (.int .u8 (kind : Int))) [12, 14, 15] [(0, 2), (1, 2), (2, 2), (3, 2), (4, 2), (5, 2), (6, 2), (7, 2), (8, 2), (9, 2), (10, 2), (11, 2)] 12 14 [(13, some 2), (14, none), (15, none)] [(12, none), (13, some 2), (15, none)]
    (FgR w1 (bV (subL xs 28 n)) kind ep sq n)
    (fun a v => (((((((((((((((a.put (some 44) (.slice (some ⟨b, off, none⟩) 512 cap)).put (some 45) (.pointer (some ⟨b, off + 4, none⟩))).put (some 46) (.int .u8 (kind : Int))).put (some 47) (.int .i64 (kind : Int))).put (some 48) (.int .u64 (ep : Int))).put (some 49) (.int .i64 (ep : Int))).put (some 50) (.int .u64 (sq : Int))).put (some 51) (.int .i64 (sq : Int))).put (some 52) (.slice (some ⟨b, off, none⟩) 512 cap)).put (some 53) (.int .u64 (n : Int))).put (some 54) (.int .u64 (28 + (n : Int)))).put (some 55) (.slice (some ⟨b, off + 28, none⟩) n (cap - 28))).put (some 56) (fstV v)).put (some 57) (.agg #[.int .i64 (kind : Int), .int .i64 (ep : Int), .int .i64 (sq : Int), fstV v])).put (some 8) (sndV v)))
    _ _ (by kernel_rfl) rfl rfl (by kernel_rfl) (by kernel_rfl) (by kernel_rfl) (by kernel_rfl) (by kernel_rfl) (by kernel_rfl) (by kernel_rfl) (by kernel_rfl) rfl rfl CK.out ?_ ?_
  · simp only [List.map_cons, List.map_nil, List.getD_cons_succ, List.getD_cons_zero]
    (repeat (first | (refine qs_now (v := ?_) (by rfl) ?_ ?_; rotate_left 1; (· (intro w' hS; go_simp; (try (simp only [↓IntWalk.iteOmega]; go_simp)); (try simp (disch := omega) only [IntWalk.i64_in]); try with_reducible rfl)); simp only [Act.put, List.setIfInBounds_toArray, List.set_cons_zero, List.set_cons_succ]) | (refine qs_run (v := ?_) (by rfl) ?_ ?_; rotate_left 1; (· (intro j w' hS; go_simp; (try (simp only [↓IntWalk.iteOmega]; go_simp)); (try simp (disch := omega) only [IntWalk.i64_in]); try with_reducible rfl)); simp only [Act.put, List.setIfInBounds_toArray, List.set_cons_zero, List.set_cons_succ]) | (refine qs_mid (v := ?_) (by rfl) ?_ ?_; rotate_left 1; (· (intro j w' hj1 hj2 hS; go_simp; (try (simp only [↓IntWalk.iteOmega]; go_simp)); (try simp (disch := omega) only [IntWalk.i64_in]); try with_reducible rfl)); simp only [Act.put, List.setIfInBounds_toArray, List.set_cons_zero, List.set_cons_succ]) | (refine qs_skip (by rfl) ?_; simp only [Act.put, List.setIfInBounds_toArray, List.set_cons_zero, List.set_cons_succ])))
    refine qs_nil ?_
    refine ⟨toHeld ?_, toHeld ?_⟩
    · go_wp2_with (go_at_call 145; rewrite [show 28 + n - 28 = n by omega]; refine (CL.out w1.drew.drew (show Below w.heap.size w w1.drew.drew from L1.out.drew.drew)).mono ?_; rintro e w2 ⟨v, rfl, ho, hb⟩; have O2 := Lib.hid ho; have L2 := Lib.hid (show Below w1.heap.size w1 w2 from below_chain (Below.refl w1.heap.size w1).drew.drew hb); clear ho hb)
      have E2 := Lib.hid (own_slice O2.out)
      obtain ⟨A, c, hv, hnc⟩ := E2.out
      subst hv
      refine ⟨(cell_below CK.out L2.out), ?_⟩
      (repeat (first | (refine qs_now (v := ?_) (by rfl) ?_ ?_; rotate_left 1; (· (intro w' hS; go_simp; (try (simp only [↓IntWalk.iteOmega]; go_simp)); (try simp (disch := omega) only [IntWalk.i64_in]); try with_reducible rfl)); simp only [Act.put, List.setIfInBounds_toArray, List.set_cons_zero, List.set_cons_succ]) | (refine qs_run (v := ?_) (by rfl) ?_ ?_; rotate_left 1; (· (intro j w' hS; go_simp; (try (simp only [↓IntWalk.iteOmega]; go_simp)); (try simp (disch := omega) only [IntWalk.i64_in]); try with_reducible rfl)); simp only [Act.put, List.setIfInBounds_toArray, List.set_cons_zero, List.set_cons_succ]) | (refine qs_mid (v := ?_) (by rfl) ?_ ?_; rotate_left 1; (· (intro j w' hj1 hj2 hS; go_simp; (try (simp only [↓IntWalk.iteOmega]; go_simp)); (try simp (disch := omega) only [IntWalk.i64_in]); try with_reducible rfl)); simp only [Act.put, List.setIfInBounds_toArray, List.set_cons_zero, List.set_cons_succ]) | (refine qs_skip (by rfl) ?_; simp only [Act.put, List.setIfInBounds_toArray, List.set_cons_zero, List.set_cons_succ])))
      refine qs_act ?_
      go_wp2_with (refine wpl_alloc rfl 155 (by rfl) Tryz.zeroValue155 4 (by rfl) ?_; intro w3 cs hk hc hg hz; have B3 := Lib.hid hk; have C3 := Lib.hid hc; have L3 := Lib.hid (show Below w2.heap.size w2 w3 from bl_n (Below.refl w2.heap.size w2) hg); clear hk hc hg hz)
      refine ⟨(cell_below CK.out (below_chain L2.out L3.out)), ?_⟩
      refine qs_act ?_
      go_wp2_with (refine wpl_over rfl 155 (.tmp 8) (.tmp 57) (by rfl) w2.heap.size (fmC kind ep sq A n c) (by rfl) (by rfl) _ cs B3.out (fmC_info _ _ _ _ _ _) (by rw [C3.out]; rfl) (by intro v hv; simp [fmC] at hv; rcases hv with rfl | rfl | rfl | rfl <;> rfl) ?_; intro w4 hb hg hz; have B4 := Lib.hid hb; have G4 := Lib.hid hg; have Z4 := Lib.hid hz; clear hb hg hz)
      have L4 := Lib.hid (show Below w2.heap.size w2 w4 from L3.out.grown G4.out L3.out.size (fun k hk => by injection hk with hk; omega))
      refine ⟨cell_below CK.out (below_chain L2.out L4.out), ?_⟩
      refine qs_nil ?_
      exact ⟨rfl, _, rfl, A, c, w2.heap.size, rfl, (Src.of_own O2.out).below L4.out, B4.out, below_chain L2.out L4.out, L2.out.size, hnc, own_ge O2.out⟩
    · go_wp2_with (refine wpl_alloc rfl 155 (by rfl) Tryz.zeroValue155 4 (by rfl) ?_; intro w2 cs hk hc hg hz; have B2 := Lib.hid hk; have C2 := Lib.hid hc; have Z2 := Lib.hid (show w2.heap.size = w1.heap.size + 1 from hz); have L2 := Lib.hid (show Below w1.heap.size w1 w2 from bl_n (Below.refl w1.heap.size w1).drew.drew hg); clear hk hc hg hz)
      refine ⟨cell_below CK.out L2.out, ?_⟩
      refine qs_act ?_
      go_wp2_with (go_at_call 145; rewrite [show 28 + n - 28 = n by omega]; refine (CL.out w2 (L1.out.trans (L2.out.mono L1.out.size))).mono ?_; rintro e w3 ⟨v, rfl, ho, hb⟩; have O3 := Lib.hid ho; have L3 := Lib.hid hb; clear ho hb)
      have E3 := Lib.hid (own_slice O3.out)
      obtain ⟨A, c, hv, hnc⟩ := E3.out
      subst hv
      refine ⟨cell_below CK.out (below_chain L2.out L3.out), ?_⟩
      (repeat (first | (refine qs_now (v := ?_) (by rfl) ?_ ?_; rotate_left 1; (· (intro w' hS; go_simp; (try (simp only [↓IntWalk.iteOmega]; go_simp)); (try simp (disch := omega) only [IntWalk.i64_in]); try with_reducible rfl)); simp only [Act.put, List.setIfInBounds_toArray, List.set_cons_zero, List.set_cons_succ]) | (refine qs_run (v := ?_) (by rfl) ?_ ?_; rotate_left 1; (· (intro j w' hS; go_simp; (try (simp only [↓IntWalk.iteOmega]; go_simp)); (try simp (disch := omega) only [IntWalk.i64_in]); try with_reducible rfl)); simp only [Act.put, List.setIfInBounds_toArray, List.set_cons_zero, List.set_cons_succ]) | (refine qs_mid (v := ?_) (by rfl) ?_ ?_; rotate_left 1; (· (intro j w' hj1 hj2 hS; go_simp; (try (simp only [↓IntWalk.iteOmega]; go_simp)); (try simp (disch := omega) only [IntWalk.i64_in]); try with_reducible rfl)); simp only [Act.put, List.setIfInBounds_toArray, List.set_cons_zero, List.set_cons_succ]) | (refine qs_skip (by rfl) ?_; simp only [Act.put, List.setIfInBounds_toArray, List.set_cons_zero, List.set_cons_succ])))
      refine qs_act ?_
      go_wp2_with (refine wpl_over rfl 155 (.tmp 8) (.tmp 57) (by rfl) w1.heap.size (fmC kind ep sq A n c) (by rfl) (by rfl) _ cs (B2.out.below L3.out B2.out.lt) (fmC_info _ _ _ _ _ _) (by rw [C2.out]; rfl) (by intro v hv; simp [fmC] at hv; rcases hv with rfl | rfl | rfl | rfl <;> rfl) ?_; intro w4 hb hg hz; have B4 := Lib.hid hb; have G4 := Lib.hid hg; have Z4 := Lib.hid hz; clear hb hg hz)
      have L4 := Lib.hid (show Below w1.heap.size w1 w4 from (below_chain L2.out L3.out).grown G4.out (below_chain L2.out L3.out).size (fun k hk => by injection hk with hk; omega))
      refine ⟨cell_below CK.out L4.out, ?_⟩
      refine qs_nil ?_
      exact ⟨rfl, _, rfl, A, c, w1.heap.size, rfl, src_tch (Src.of_own O3.out) (tch_g G4.out) (fun _ a ha => by have := own_ge O3.out a ha; have := Z2.out; simp; omega), B4.out, L4.out, Nat.le_refl _, hnc, fun a ha => by have := own_ge O3.out a ha; have := Z2.out; omega⟩
  · rintro v w' ⟨A, c, f, rfl, hS, hB, hL, hf, hnc, hge⟩
    have Sge := Lib.hid (fun a ha => Nat.lt_of_lt_of_le K.out.lt (hge a ha))
    clear hge
    have S5 := Lib.hid hS
    have B5 := Lib.hid hB
    have L5 := Lib.hid (show Below w.heap.size w w' from L1.out.trans (hL.mono L1.out.size))
    have L51 := Lib.hid (show Below w1.heap.size w1 w' from hL)
    have HRw := Lib.hid (fun W (hb : Below w.heap.size w W) => HR.out.below hb)
    have HPre := Lib.hid (fun W (hb : Below w.heap.size w W) (g : Nat) (hB : Blk W g 5 (bV (frL kind ep sq (subL xs 28 n))).toArray) => fg_prefix xs (frL kind ep sq (subL xs 28 n)) b off cap g W (HR.out.below hb) HX.out hc hB (frL_bytes (by omega) (fun z hz => HX.out z (List.mem_of_mem_drop (List.mem_of_mem_take hz)))) (by rw [frL_len _ _ _ _ (by simp [subL]; omega)]))
    generalize hD : decide (xs = frL kind ep sq (subL xs 28 n)) = D at HPre
    have HD := Lib.hid hD
    clear hD
    clear hS hB hL
    rw [fstV_two, sndV_two]
    have RG := Lib.hid (show w'.rangeAt f 0 (fmC kind ep sq A n c) by have := B5.out.range; rwa [List.toList_toArray] at this)
    cases D
    · simp only [Act.put, List.setIfInBounds_toArray, List.set_cons_zero, List.set_cons_succ]
      go_wp2_with (first
        | (go_at_call 162; refine (HPre.out _ L6.out g B6.out).mono ?_; rintro e w7 ⟨rfl, rfl⟩)
        | (go_at_call 73; refine (fr_put kind ep sq (by omega) hep2 hsq2 S5.out (by omega) (fun z hz => HX.out z (List.mem_of_mem_drop (List.mem_of_mem_take hz)))).mono ?_; rintro e w6 ⟨g, rfl, hb, hge, hl⟩; have B6 := Lib.hid hb; have L6 := Lib.hid (show Below w.heap.size w w6 from below_chain L5.out hl); have S6 := Lib.hid (S5.out.below hl); have K6 := Lib.hid (show Blk w6 w.heap.size 155 cs1 from (K.out.below (below_chain (by have := L51.out; exact this) hl) K.out.lt)); have F6 := Lib.hid (show w6.rangeAt f 0 (fmC kind ep sq A n c) by have := (B5.out.below hl B5.out.lt).range; rwa [List.toList_toArray] at this); clear hb hl)
        | (refine wpList_load_mid rfl 155 (.tmp 8) (by rfl) f 0 (by rfl) (fmC kind ep sq A n c) _ RG.out Tryz.underlying155 rfl (fmC_info _ _ _ _ _ _) ?_; simp only [Act.put, List.setIfInBounds_toArray, List.set_cons_zero, List.set_cons_succ])
        | (refine wpList_load_mid rfl 155 (.tmp 8) (by rfl) f 0 (by rfl) (fmC kind ep sq A n c) _ F6.out Tryz.underlying155 rfl (fmC_info _ _ _ _ _ _) ?_; simp only [Act.put, List.setIfInBounds_toArray, List.set_cons_zero, List.set_cons_succ])
        | (refine wpl_over rfl 155 (.tmp 2) (.tmp 67) (by rfl) w.heap.size (fmC 0 0 0 none 0 0) (by rfl) (by rfl) _ cs1 K6.out (fmC_info _ _ _ _ _ _) (by rw [C1.out]; rfl) (by simp [fmC, Value.oneCell']) ?_; intro w8 hb hg hz; have B8 := Lib.hid hb; have G8 := Lib.hid hg; have Z8 := Lib.hid hz; clear hb hg hz))
      (try simp only [Exit.inBlock, Exit.then])
      refine bodyPost_ret (results_blk_tmp2 rfl _ w.heap.size rfl _ _ B8.out _ Tryz.underlying155 rfl 4 (fmC_info 0 0 0 none 0 0) rfl) rfl ?_
      have L8 := Lib.hid (show Below w.heap.size w w8 from L6.out.grown G8.out L6.out.size (fun k hk => by injection hk with hk; omega))
      exact ⟨L8.out, .inr ⟨of_decide_eq_false HD.out, rfl⟩⟩
    · simp only [Act.put, List.setIfInBounds_toArray, List.set_cons_zero, List.set_cons_succ]
      go_wp2_with (first
        | (go_at_call 162; refine (HPre.out _ L6.out g B6.out).mono ?_; rintro e w7 ⟨rfl, rfl⟩)
        | (go_at_call 73; refine (fr_put kind ep sq (by omega) hep2 hsq2 S5.out (by omega) (fun z hz => HX.out z (List.mem_of_mem_drop (List.mem_of_mem_take hz)))).mono ?_; rintro e w6 ⟨g, rfl, hb, hge, hl⟩; have B6 := Lib.hid hb; have L6 := Lib.hid (show Below w.heap.size w w6 from below_chain L5.out hl); have S6 := Lib.hid (S5.out.below hl); have K6 := Lib.hid (show Blk w6 w.heap.size 155 cs1 from (K.out.below (below_chain (by have := L51.out; exact this) hl) K.out.lt)); have F6 := Lib.hid (show w6.rangeAt f 0 (fmC kind ep sq A n c) by have := (B5.out.below hl B5.out.lt).range; rwa [List.toList_toArray] at this); clear hb hl)
        | (refine wpList_load_mid rfl 155 (.tmp 8) (by rfl) f 0 (by rfl) (fmC kind ep sq A n c) _ RG.out Tryz.underlying155 rfl (fmC_info _ _ _ _ _ _) ?_; simp only [Act.put, List.setIfInBounds_toArray, List.set_cons_zero, List.set_cons_succ])
        | (refine wpList_load_mid rfl 155 (.tmp 8) (by rfl) f 0 (by rfl) (fmC kind ep sq A n c) _ F6.out Tryz.underlying155 rfl (fmC_info _ _ _ _ _ _) ?_; simp only [Act.put, List.setIfInBounds_toArray, List.set_cons_zero, List.set_cons_succ])
        | (refine wpl_over rfl 155 (.tmp 2) (.tmp 68) (by rfl) w.heap.size (fmC kind ep sq A n c) (by rfl) (by rfl) _ cs1 K6.out (fmC_info _ _ _ _ _ _) (by rw [C1.out]; rfl) (by simp [fmC, Value.oneCell']) ?_; intro w8 hb hg hz; have B8 := Lib.hid hb; have G8 := Lib.hid hg; have Z8 := Lib.hid hz; clear hb hg hz))
      (try simp only [Exit.inBlock, Exit.then])
      refine bodyPost_ret (results_blk_tmp2 rfl _ w.heap.size rfl _ _ B8.out _ Tryz.underlying155 rfl 4 (fmC_info 0 0 0 none 0 0) rfl) rfl ?_
      have L8 := Lib.hid (show Below w.heap.size w w8 from L6.out.grown G8.out L6.out.size (fun k hk => by injection hk with hk; omega))
      exact ⟨L8.out, .inl ⟨of_decide_eq_true HD.out, A, c, rfl, src_tch S6.out (tch_g G8.out) (fun hm a ha => by have := Sge.out a ha; simp; omega), hnc, fun a ha => Nat.le_of_lt (Sge.out a ha)⟩⟩
end Go.Proofs.YtpadifphnbdbpaaGreat
