/-
  lz.Parse's two closures: where three bytes stood; how long a match is.
  lz.Parse's closure 'put': where three bytes stood.
  lz.Parse's closure 'length': how many bytes are alike.
  lz.Parse, walked.
-/
import Derived.Test.YthmcdohndckniaaGreatDoorDPlains
import Derived.Test.YthmcdohndckniaaGreatDoorDputs
import Derived.Test.YthmcdohndckniaaGreatDoorStream
import Derived.DeepKeys4
namespace Go.Proofs.YthmcdohndckniaaGreatDoor
open Go.RowKit
set_option linter.unusedVariables false

theorem rowThree : 77 < Tryz.prog.types.size := of_decide_eq_true (by kernel_rfl)
theorem wideThree : (match Tryz.prog.underlying 77 with | some (.array _ _) | some (.struct _) => true | _ => false) = true := by rw [Tryz.underlying77]
set_option maxRecDepth 100000 in
theorem keyedThree : Maps.Keyed Tryz.prog 77 := Maps.Keyed.of_law (deep_law_laid (by kernel_rfl) (m := 2) (by omega) rowThree (by kernel_rfl) wideThree)
theorem infoThree : (Tryz.prog.info? 77).map (·.size) = some 3 := by kernel_rfl
theorem cellsThree : Tryz.prog.cellsOf 77 = 3 := by kernel_rfl
theorem cellsU8 : Tryz.prog.cellsOf 5 = 1 := by kernel_rfl
set_option maxRecDepth 100000 in
theorem keyTypeThree : Tryz.prog.keyType 77 = true := by kernel_rfl
set_option maxRecDepth 100000 in
theorem typesPos : ∃ m, Tryz.prog.types.size = m + 1 := ⟨Tryz.prog.types.size - 1, by kernel_rfl⟩
theorem lit_u8 (d a : Nat) (ha : a < 256) : Tryz.prog.keyLits (d + 1) 5 [.int .u8 (a : Int)] = some [.int .u8 (a : Int)] := by
  unfold Program.keyLits
  rw [Tryz.underlying5]
  have : (Lit.int .u8 (a : Int)).wf = true := by
    have h1 : IntKind.u8.min = 0 := rfl
    have h2 : IntKind.u8.max = 255 := rfl
    simp only [Lit.wf, h1, h2, Bool.and_eq_true, decide_eq_true_eq]
    omega
  simp [this]
theorem keyB_u8 (a : Nat) (ha : a < 256) : Lit.keyBytes (.int .u8 (a : Int)) = [UInt8.ofNat a] := by
  have e : ((a : Int) % 2 ^ 8).toNat % 256 = a := by omega
  show List.reverse [UInt8.ofNat (((a : Int) % 2 ^ 8).toNat % 256)] = _
  rw [e]
  rfl
theorem keyThree (a b c : Nat) (ha : a < 256) (hb : b < 256) (hc : c < 256) : keyOf Tryz.prog 77 (.agg #[.int .u8 (a : Int), .int .u8 (b : Int), .int .u8 (c : Int)]) = some (.string [UInt8.ofNat a, UInt8.ofNat b, UInt8.ofNat c]) := by
  obtain ⟨m, hm⟩ := typesPos
  unfold keyOf
  rw [hm]
  simp only [Tryz.underlying77]
  rw [if_pos (by simp [keyTypeThree, Value.formed, Tryz.underlying77, cellsThree])]
  unfold Program.keyLits
  simp only [Tryz.underlying77, Value.cells]
  rw [if_pos (by rw [cellsThree]; rfl), cellsU8]
  simp [List.range, List.range.loop, lit_u8 _ _ ha, lit_u8 _ _ hb, lit_u8 _ _ hc, keyBytes, keyB_u8 _ ha, keyB_u8 _ hb, keyB_u8 _ hc]

/-- What lies in memory while pieces are found: the bytes, the map's block m, the row's block ga; the boxes p1 (bytes), p4 (row), p3 (map). -/
structure LzOk (w : World) (b : List Int) (A : Option Addr) (n c p1 p4 p3 ga m k : Nat) : Prop where
  b1 : Blk w p1 22 #[.slice A n c]
  b4 : Blk w p4 75 #[.slice (some ⟨ga, 0, none⟩) n n]
  b3 : Blk w p3 74 #[.map (some m)]
  bytes : RdI .u8 w A n b
  row : w.ownsRow 0 3 1 (.slice (some ⟨ga, 0, none⟩) n n) n ((aheadL b k).map (Value.int .i64))
  map : ∃ D : DataW Unit, w.ownsMap Tryz.prog 77 (plainElem Tryz.prog 3) m k D ∧ LastOk b D k
/-- What may turn: the row and the map. -/
structure LzStep (w w' : World) (ga m : Nat) : Prop where
  os : w'.os = w.os
  tape : w'.tape = w.tape
  output : w'.output = w.output
  size : w.heap.size ≤ w'.heap.size
  block : ∀ k, k < w.heap.size → k ≠ ga → k ≠ m → w'.heap[k]? = w.heap[k]?
theorem LzStep.refl (w : World) (ga m : Nat) : LzStep w w ga m := ⟨rfl, rfl, rfl, Nat.le_refl _, fun _ _ _ _ => rfl⟩
theorem LzStep.trans {w w1 w2 : World} {ga m : Nat} (h : LzStep w w1 ga m) (k : LzStep w1 w2 ga m) : LzStep w w2 ga m :=
  ⟨k.os.trans h.os, k.tape.trans h.tape, k.output.trans h.output, Nat.le_trans h.size k.size, fun j hj a b => (k.block j (Nat.lt_of_lt_of_le hj h.size) a b).trans (h.block j hj a b)⟩
theorem LzStep.of_below {w w' : World} {ga m : Nat} (h : Below w.heap.size w w') : LzStep w w' ga m := ⟨h.os, h.tape, h.output, h.size, fun k hk _ _ => h.block k hk⟩
theorem LzStep.of_row {w w' : World} {ga m : Nat} (h : w.grownBy w' (some ga)) : LzStep w w' ga m := ⟨h.os, h.tape, h.output, h.size, fun k hk a _ => h.block k hk (fun e => a (by injection e))⟩
theorem LzStep.of_map {w w' : World} {ga m : Nat} (h : w.grownBy w' (some m)) : LzStep w w' ga m := ⟨h.os, h.tape, h.output, h.size, fun k hk _ a => h.block k hk (fun e => a (by injection e))⟩
theorem LzStep.below {w w' : World} {ga m B : Nat} (h : LzStep w w' ga m) (h1 : B ≤ ga) (h2 : B ≤ m) (hB : B ≤ w.heap.size) : Below B w w' := ⟨h.os, h.tape, h.output, h.size, fun k hk => h.block k (by omega) (by omega) (by omega)⟩
theorem map_ne {w : World} {m g n : Nat} {t : TypeId} {cs : Array Value} {D : DataW Unit} (h : w.ownsMap Tryz.prog 77 (plainElem Tryz.prog 3) m n D) (hb : Blk w g t cs) : g ≠ m := by
  rintro rfl
  obtain ⟨es, clock, hm, _⟩ := h
  unfold Blk at hb
  rw [hm] at hb
  cases hb
theorem row_blk {w : World} {ga base n c size : Nat} {t : TypeId} {xs : List Value} (h : w.ownsRow base t size (.slice (some ⟨ga, 0, none⟩) n c) n xs) : ∃ cs, Blk w ga t cs := by
  rcases h.2 with ⟨h, _⟩ | ⟨g', cap, cur, hv, _, hg, _⟩
  · cases h
  · injection hv with hv
    injection hv with hv
    injection hv with hv
    subst hv
    exact ⟨cur, hg⟩
theorem LzStep.blk {w w' : World} {b : List Int} {A : Option Addr} {n c p1 p4 p3 ga m k j : Nat} {t : TypeId} {cs : Array Value} (hs : LzStep w w' ga m) (h : LzOk w b A n c p1 p4 p3 ga m k) (hb : Blk w j t cs) (ht : t ≠ 3) : Blk w' j t cs := by
  obtain ⟨D, hm, _⟩ := h.map
  obtain ⟨cs2, hr⟩ := row_blk h.row
  exact (hs.block j hb.lt (blk_ne hb hr ht) (map_ne hm hb)).trans hb
theorem LzStep.row {w w' : World} {b : List Int} {A : Option Addr} {n c p1 p4 p3 ga m k base size l : Nat} {t : TypeId} {v : Value} {xs : List Value} (hs : LzStep w w' ga m) (h : LzOk w b A n c p1 p4 p3 ga m k) (hb : w.ownsRow base t size v l xs) (ht : t ≠ 3) : w'.ownsRow base t size v l xs := by
  refine ⟨hb.1, hb.2.imp id ?_⟩
  rintro ⟨g', cap, cur, rfl, a1, a2, a3⟩
  exact ⟨g', cap, cur, rfl, a1, hs.blk h (t := t) (cs := cur) a2 ht, a3⟩
theorem LzOk.below {w w' : World} {b : List Int} {A : Option Addr} {n c p1 p4 p3 ga m k : Nat} (h : LzOk w b A n c p1 p4 p3 ga m k) (hb : Below w.heap.size w w') : LzOk w' b A n c p1 p4 p3 ga m k := by
  obtain ⟨D, hm, hl⟩ := h.map
  exact ⟨h.b1.below hb h.b1.lt, h.b4.below hb h.b4.lt, h.b3.below hb h.b3.lt, h.bytes.below hb, own_below h.row hb, D, hm.kept (row := none) ⟨hb.os, hb.tape, hb.output, hb.size, fun k hk _ => hb.block k hk⟩ (by simp), hl⟩
end Go.Proofs.YthmcdohndckniaaGreatDoor
namespace Go.Proofs.YthmcdohndckniaaGreatDoor
open Go.RowKit
set_option linter.unusedVariables false

def HeldG (p : Prop) : Prop := p
theorem heldG {p : Prop} (h : HeldG p) : p := h
theorem zeroInt (w : World) : (zeroValue 3).run Tryz.prog w = .ok (.int .i64 0) w := by kernel_rfl
def LzPutPost (b : List Int) (A : Option Addr) (n c p1 p4 p3 ga m k : Nat) (w : World) (e : Ending) (w' : World) : Prop :=
  e = .returned (.tuple #[]) ∧ LzOk w' b A n c p1 p4 p3 ga m (k + 1) ∧ LzStep w w' ga m
theorem LzOk.past {w : World} {b : List Int} {A : Option Addr} {n c p1 p4 p3 ga m k : Nat} (h : LzOk w b A n c p1 p4 p3 ga m k) (hk : n < k + 3) : LzOk w b A n c p1 p4 p3 ga m (k + 1) := by
  have hl : b.length = n := h.bytes.1
  obtain ⟨D, hm, hd⟩ := h.map
  exact ⟨h.b1, h.b4, h.b3, h.bytes, by rw [← aheadL_past (by omega)]; exact h.row, D, hm.mono (by omega), hd.past (by omega)⟩
set_option maxHeartbeats 1600000 in
set_option maxRecDepth 100000 in
theorem lzput_any (b : List Int) (A : Option Addr) (n c p1 p4 p3 ga m k : Nat) (w : World) (h : LzOk w b A n c p1 p4 p3 ga m k) (hB : ∀ z ∈ b, 0 ≤ z ∧ z < 256) (hn : n ≤ 65536) (hc : n ≤ c) (hk : k < n) (hlo : ∀ bb off, A = some ⟨bb, off, none⟩ → bb ≠ ga ∧ bb ≠ m) :
    Calls Tryz.prog 26 #[.int .i64 (k : Int), .pointer (some ⟨p1, 0, none⟩), .pointer (some ⟨p4, 0, none⟩), .pointer (some ⟨p3, 0, none⟩)] w (LzPutPost b A n c p1 p4 p3 ga m k w) := by
  have H := Lib.hid h
  have d1 := h.b1.cell (i := 0) rfl
  have d4 := h.b4.cell (i := 0) rfl
  have d3 := h.b3.cell (i := 0) rfl
  have hbl : b.length = n := h.bytes.1
  by_cases h3 : n < k + 3
  · have h3I : (n : Int) < (k : Int) + 3 := by omega
    clear h
    go_enter Tryz.func26, Tryz.ntmps26
    go_wp2
    go_end0
    exact ⟨rfl, H.out.past h3, LzStep.refl _ _ _⟩
  · have h3I : ¬ (n : Int) < (k : Int) + 3 := by omega
    obtain ⟨bb, off, rfl, hblt, hcell⟩ := h.bytes.2 (by omega)
    have bd : ∀ i, i < n → 0 ≤ b.getD i 0 ∧ b.getD i 0 < 256 := fun i hi => hB _ (by simp [show i < b.length by omega])
    have x0 := hcell k (by omega)
    have x1 := hcell (k + 1) (by omega)
    have x2 := hcell (k + 2) (by omega)
    obtain ⟨y0, hy0⟩ : ∃ y : Nat, b.getD k 0 = (y : Int) := ⟨(b.getD k 0).toNat, by have := bd k (by omega); omega⟩
    obtain ⟨y1, hy1⟩ : ∃ y : Nat, b.getD (k + 1) 0 = (y : Int) := ⟨(b.getD (k + 1) 0).toNat, by have := bd (k + 1) (by omega); omega⟩
    obtain ⟨y2, hy2⟩ : ∃ y : Nat, b.getD (k + 2) 0 = (y : Int) := ⟨(b.getD (k + 2) 0).toNat, by have := bd (k + 2) (by omega); omega⟩
    have hb0 : y0 < 256 := by have := bd k (by omega); omega
    have hb1 : y1 < 256 := by have := bd (k + 1) (by omega); omega
    have hb2 : y2 < 256 := by have := bd (k + 2) (by omega); omega
    have HKey := Lib.hid (show keyOf Tryz.prog 77 (.agg #[.int .u8 (y0 : Int), .int .u8 (y1 : Int), .int .u8 (y2 : Int)]) = some (key3 b k) by
      rw [keyThree y0 y1 y2 hb0 hb1 hb2]
      unfold key3 byteAt
      rw [hy0, hy1, hy2]
      rfl)
    rw [hy0] at x0
    rw [hy1, ← Nat.add_assoc] at x1
    rw [hy2, ← Nat.add_assoc] at x2
    obtain ⟨hne1, hne2⟩ := hlo bb off rfl
    obtain ⟨D, hm, hD⟩ := h.map
    have hmne : ga ≠ m := by
      obtain ⟨cs, hr⟩ := row_blk h.row
      exact map_ne hm hr
    have q1 := h.row.cellAt k (by omega)
    have q2 := h.row.frozenAt k
    rw [ints_get (by rw [aheadL_len]; omega)] at q1
    have hltI : (k : Int) < (n : Int) := by omega
    have hHM := Lib.hid hm
    have HD := Lib.hid hD
    clear h hcell hy0 hy1 hy2 bd hm hD
    have hat : ∀ W : World, (Instr.arrayAt 77 (.slice (some ⟨bb, off + k, none⟩) (n - k) (c - k))).run Tryz.prog W = .ok (.pointer (some ⟨bb, off + k, none⟩)) W := fun W => by
      simp [Instr.arrayAt, run_underlying Tryz.underlying77, show ¬ (n - k < 3) by omega]
    obtain ⟨cs4, hrb⟩ := row_blk H.out.row
    have hga : ga < w.heap.size := hrb.lt
    have hp4 : p4 < w.heap.size := H.out.b4.lt
    have hp3 : p3 < w.heap.size := H.out.b3.lt
    have hp3g : p3 ≠ ga := blk_ne H.out.b3 hrb (by decide)
    have hp4g : p4 ≠ ga := blk_ne H.out.b4 hrb (by decide)
    clear hrb
    have e4 := keepCell ((Below.refl w.heap.size w).alloc (Nat.le_refl _) (.cells #[.int .u8 (y0 : Int), .int .u8 (y1 : Int), .int .u8 (y2 : Int)] 77)) hp4 d4
    have r1 := keepCell ((Below.refl w.heap.size w).alloc (Nat.le_refl _) (.cells #[.int .u8 (y0 : Int), .int .u8 (y1 : Int), .int .u8 (y2 : Int)] 77)) hga q1
    have r2 := (H.out.row.alloc (.cells #[.int .u8 (y0 : Int), .int .u8 (y1 : Int), .int .u8 (y2 : Int)] 77)).frozenAt k
    obtain ⟨wA, hwA⟩ : ∃ wA, wA = w.setCell ⟨ga, k, none⟩ (.int .i64 (-1)) := ⟨_, rfl⟩
    have rA := H.out.row.stored k (.int .i64 (-1))
    have GA := Lib.hid (show w.grownBy wA (some ga) by rw [hwA]; exact rA.2)
    have RA := Lib.hid (show wA.ownsRow 0 3 1 (.slice (some ⟨ga, 0, none⟩) n n) n (((aheadL b k).map (Value.int .i64)).set k (.int .i64 (-1))) by rw [hwA]; exact rA.1)
    have hsz : wA.heap.size = w.heap.size := by rw [hwA]; simp
    obtain ⟨wB, hwB⟩ : ∃ wB, wB = wA.alloc (.cells #[.int .u8 (y0 : Int), .int .u8 (y1 : Int), .int .u8 (y2 : Int)] 77) := ⟨_, rfl⟩
    have LB := Lib.hid (show Below wA.heap.size wA wB by rw [hwB]; exact (Below.refl _ _).alloc (Nat.le_refl _) _)
    have KB := Lib.hid (show Blk wB w.heap.size 77 #[.int .u8 (y0 : Int), .int .u8 (y1 : Int), .int .u8 (y2 : Int)] by rw [hwB, ← hsz]; exact Blk.made _ _ _)
    have B3 := Lib.hid ((H.out.b3.grown GA.out (by simp; omega)).below LB.out (by omega))
    have B4 := Lib.hid ((H.out.b4.grown GA.out (by simp; omega)).below LB.out (by omega))
    have MA := hHM.out.kept GA.out (by simp; omega)
    have MB := Lib.hid (MA.kept (row := none) (w' := wB) (by rw [hwB]; exact World.grownBy_alloc _ _ _) (by simp))
    have RB := Lib.hid (own_below RA.out LB.out)
    have SB := Lib.hid (show LzStep w wB ga m from (LzStep.of_row GA.out).trans (LzStep.of_below LB.out))
    have f3 := B3.out.cell (i := 0) rfl
    have f4 := B4.out.cell (i := 0) rfl
    have f50 := KB.out.cell (i := 0) rfl
    have f51 := KB.out.cell (i := 1) rfl
    have f52 := KB.out.cell (i := 2) rfl
    clear rA MA
    rw [hwB, hwA] at f3 f4 f50 f51 f52
    have hwB2 := hwB
    rw [hwA] at hwB2
    clear hwB
    go_enter Tryz.func26, Tryz.ntmps26
    go_wp2_with (at_lookup; refine heldG ?_)
    unfold HeldG
    rw [← hwB2]
    clear f3 f4 f50 f51 f52
    refine wpList_lookup_own_ok_int _ rfl _ _ 74 rfl 77 3 .i64 keyedThree Tryz.underlying74 Tryz.underlying3 (zeroInt _) m k D rfl MB.out _ (key3 b k) rfl HKey.out ?_
    intro cc hat2 hwc
    have HAT := Lib.hid hat2
    have hgo := HD.out.2 k (Nat.le_refl _) (by omega)
    have hpa : prevGo b k k = prevA b k := rfl
    rw [hpa] at hgo
    have HGO := Lib.hid hgo.2
    rw [hgo.1]
    clear hat2 hgo hpa
    have f3 := B3.out.cell (i := 0) rfl
    have f4 := B4.out.cell (i := 0) rfl
    have f50 := KB.out.cell (i := 0) rfl
    have f51 := KB.out.cell (i := 1) rfl
    have f52 := KB.out.cell (i := 2) rfl
    clear hwB2 e4 r1 r2 hwA hwc d1 d3 d4 x0 x1 x2 q1 q2
    by_cases hp : 0 ≤ prevA b k
    · have hdp : decide (0 ≤ prevA b k) = true := by simpa using hp
      have hcc : cc = prevA b k := by
        have h1 := HGO.out hp (.lit (.int .i64 0))
        rw [HAT.out] at h1
        injection h1 with h1
        injection h1
      subst hcc
      rw [hdp]
      have g1 := RB.out.cellAt k (by omega)
      have g2 := RB.out.frozenAt k
      rw [List.getElem?_set_self (by simp [aheadL_len]; omega)] at g1
      obtain ⟨wC, hwC⟩ : ∃ wC, wC = wB.setCell ⟨ga, k, none⟩ (.int .i64 (prevA b k)) := ⟨_, rfl⟩
      have rC := RB.out.stored k (.int .i64 (prevA b k))
      have GC := Lib.hid (show wB.grownBy wC (some ga) by rw [hwC]; exact rC.2)
      have RC := Lib.hid (show wC.ownsRow 0 3 1 (.slice (some ⟨ga, 0, none⟩) n n) n ((aheadL b (k + 1)).map (Value.int .i64)) by
        rw [hwC]
        have h1 := rC.1
        rw [List.set_set, ← List.map_set, aheadL_put (by omega)] at h1
        exact h1)
      have C3 := Lib.hid (B3.out.grown GC.out (by simp; omega))
      have C4 := Lib.hid (B4.out.grown GC.out (by simp; omega))
      have CK := Lib.hid (KB.out.grown GC.out (by simp; omega))
      have MC := Lib.hid (MB.out.kept GC.out (by simp; omega))
      have SC := Lib.hid (SB.out.trans (LzStep.of_row GC.out))
      have h3' := C3.out.cell (i := 0) rfl
      have h50 := CK.out.cell (i := 0) rfl
      have h51 := CK.out.cell (i := 1) rfl
      have h52 := CK.out.cell (i := 2) rfl
      rw [hwC] at h3' h50 h51 h52
      go_wp2_with (at_mapUpdate; refine heldG ?_)
      unfold HeldG
      rw [← hwC]
      clear hwC h3' h50 h51 h52 f3 f4 f50 f51 f52 g1 g2 rC
      refine wpList_mapUpdate_own _ rfl _ _ _ 74 rfl 77 3 keyedThree Tryz.underlying74 _ m k D rfl MC.out (by unfold maxLen; omega) _ _ (key3 b k) rfl rfl HKey.out _ [] (plainElem_int Tryz.underlying3 (WalkArith.wf_i64 (by omega))) ?_
      intro wD hmD hgD
      have SD := Lib.hid (SC.out.trans (LzStep.of_map hgD))
      have hrow := RC.out.kept hgD (by simp [Value.ownBlock]; omega)
      have D4 := C4.out.grown hgD (by intro e; injection e with e; exact map_ne MC.out C4.out e)
      have D3 := C3.out.grown hgD (by intro e; injection e with e; exact map_ne MC.out C3.out e)
      have D1 := SD.out.blk H.out H.out.b1 (by decide)
      have DR : RdI .u8 wD (some ⟨bb, off, none⟩) n b := ⟨hbl, fun h0 => ⟨bb, off, rfl, Nat.lt_of_lt_of_le hblt SD.out.size, fun j hj => by
        obtain ⟨_, _, e, _, hc⟩ := H.out.bytes.2 h0
        injection e with e
        injection e with e1 e2
        subst e1 e2
        exact (World.cell?_of_block (a := ⟨bb, off + j, none⟩) (SD.out.block bb hblt hne1 hne2)).trans (hc j hj)⟩⟩
      have HFin := Lib.hid (show LzOk wD b (some ⟨bb, off, none⟩) n c p1 p4 p3 ga m (k + 1) from ⟨D1, D4, D3, DR, hrow, _, hmD, HD.out.put hB⟩)
      clear hmD hgD hrow D4 D3 D1 DR
      go_wp2
      go_end0
      exact ⟨rfl, HFin.out, SD.out⟩
    · have hdp : decide (0 ≤ prevA b k) = false := by simpa using hp
      rw [hdp]
      have hneg : prevA b k = -1 := by have := (prevA_lt b k).1; omega
      have RC := Lib.hid (show wB.ownsRow 0 3 1 (.slice (some ⟨ga, 0, none⟩) n n) n ((aheadL b (k + 1)).map (Value.int .i64)) by
        have h1 := RB.out
        rw [← hneg, ← List.map_set, aheadL_put (by omega)] at h1
        exact h1)
      go_wp2_with (at_mapUpdate; refine heldG ?_)
      unfold HeldG
      refine wpList_mapUpdate_own _ rfl _ _ _ 74 rfl 77 3 keyedThree Tryz.underlying74 _ m k D rfl MB.out (by unfold maxLen; omega) _ _ (key3 b k) rfl rfl HKey.out _ [] (plainElem_int Tryz.underlying3 (WalkArith.wf_i64 (by omega))) ?_
      intro wD hmD hgD
      have SD := Lib.hid (SB.out.trans (LzStep.of_map hgD))
      have hrow := RC.out.kept hgD (by simp [Value.ownBlock]; omega)
      have D4 := B4.out.grown hgD (by intro e; injection e with e; exact map_ne MB.out B4.out e)
      have D3 := B3.out.grown hgD (by intro e; injection e with e; exact map_ne MB.out B3.out e)
      have D1 := SD.out.blk H.out H.out.b1 (by decide)
      have DR : RdI .u8 wD (some ⟨bb, off, none⟩) n b := ⟨hbl, fun h0 => ⟨bb, off, rfl, Nat.lt_of_lt_of_le hblt SD.out.size, fun j hj => by
        obtain ⟨_, _, e, _, hc⟩ := H.out.bytes.2 h0
        injection e with e
        injection e with e1 e2
        subst e1 e2
        exact (World.cell?_of_block (a := ⟨bb, off + j, none⟩) (SD.out.block bb hblt hne1 hne2)).trans (hc j hj)⟩⟩
      have HFin := Lib.hid (show LzOk wD b (some ⟨bb, off, none⟩) n c p1 p4 p3 ga m (k + 1) from ⟨D1, D4, D3, DR, hrow, _, hmD, HD.out.put hB⟩)
      clear hmD hgD hrow D4 D3 D1 DR
      go_wp2
      go_end0
      exact ⟨rfl, HFin.out, SD.out⟩
end Go.Proofs.YthmcdohndckniaaGreatDoor
namespace Go.Proofs.YthmcdohndckniaaGreatDoor
open Go.RowKit
set_option linter.unusedVariables false

theorem mlGo_zero (b : List Int) (i j n : Nat) : mlGo b i j 0 n = n := rfl
def LzLenI (b : List Int) (from' at' : Nat) (w : World) (f : Nat) (iv : Value) (wr : World) : Prop :=
  ∃ n : Nat, iv = .int .i64 (n : Int) ∧ n + f = 258 ∧ mlGo b from' at' 258 0 = mlGo b from' at' f n ∧ Below w.heap.size w wr
def LenLPost (v : Nat) (w : World) (e : Ending) (w' : World) : Prop := e = .returned (.int .i64 (v : Int)) ∧ Below w.heap.size w w'
set_option maxHeartbeats 1600000 in
set_option maxRecDepth 100000 in
theorem lzlen_any (b : List Int) (A : Option Addr) (n c p1 from' at' : Nat) (w : World) (h1 : Blk w p1 22 #[.slice A n c]) (hr : RdI .u8 w A n b) (hn : n ≤ 65536) (hft : from' < at') (hat : at' < n) :
    Calls Tryz.prog 27 #[.int .i64 (from' : Int), .int .i64 (at' : Int), .pointer (some ⟨p1, 0, none⟩)] w (LenLPost (matchL b from' at') w) := by
  have HB := Lib.hid h1
  have HR := Lib.hid hr
  have hbl : b.length = n := hr.1
  clear h1 hr
  go_enter Tryz.func27, Tryz.ntmps27
  go_wp2
  go_loopg [6] 258 (LzLenI b from' at' w)
  case atStart => exact ⟨0, rfl, rfl, rfl, Below.refl _ _⟩
  case round =>
    obtain ⟨k, rfl, hk, hm, hb⟩ := hrel
    have HM := Lib.hid hm
    have HBl := Lib.hid hb
    have d1 := (HB.out.below hb HB.out.lt).cell (i := 0) rfl
    have hRk := HR.out.below hb
    clear hm hb
    obtain ⟨bb, off, rfl, hblt, hcell⟩ := hRk.2 (by omega)
    by_cases h258 : k < 258
    · have h258I : (k : Int) < 258 := by omega
      obtain ⟨f, rfl⟩ : ∃ f, gk = f + 1 := ⟨gk - 1, by omega⟩
      by_cases hin : at' + k < n
      · have hinI : (at' : Int) + (k : Int) < (n : Int) := by omega
        have hinD : decide ((at' : Int) + (k : Int) < (n : Int)) = true := by simpa using hinI
        have hin2 : (from' : Int) + (k : Int) < (n : Int) := by omega
        have x0 := hcell (from' + k) (by omega)
        have x1 := hcell (at' + k) hin
        rw [← Nat.add_assoc] at x0 x1
        have HS := Lib.hid (show mlGo b from' at' (f + 1) k = if b.getD (from' + k) 0 = b.getD (at' + k) 0 then mlGo b from' at' f (k + 1) else k by
          rw [mlGo]
          by_cases e : b.getD (from' + k) 0 = b.getD (at' + k) 0
          · rw [if_pos ⟨by omega, e⟩, if_pos e]
          · rw [if_neg (fun h => e h.2), if_neg e])
        clear hcell hRk
        generalize b.getD (from' + k) 0 = z0 at x0 HS
        generalize b.getD (at' + k) 0 = z1 at x1 HS
        have y0 : wr.drew.cell? ⟨bb, off + ((from' : Int) + (k : Int)).toNat, none⟩ = some (.int .u8 z0) := by
          rw [show ((from' : Int) + (k : Int)).toNat = from' + k by omega, ← Nat.add_assoc]; exact x0
        have y1 : wr.drew.cell? ⟨bb, off + ((at' : Int) + (k : Int)).toNat, none⟩ = some (.int .u8 z1) := by
          rw [show ((at' : Int) + (k : Int)).toNat = at' + k by omega, ← Nat.add_assoc]; exact x1
        by_cases he : z0 = z1
        · have heI : (z0 == z1) = true := by simpa using he
          go_wp2
          refine wp_region_qs (fun _ w' => w'.cell? ⟨p1, 0, none⟩ = some (.slice (some ⟨bb, off, none⟩) n c) ∧ w'.cell? ⟨bb, off + ((from' : Int) + (k : Int)).toNat, none⟩ = some (.int .u8 z0) ∧ w'.cell? ⟨bb, off + ((at' : Int) + (k : Int)).toNat, none⟩ = some (.int .u8 z1)) [(0, some 0), (1, some 0), (2, some 0), (3, some 0), (4, some 0), (5, some 0), (6, some 0), (7, some 0), (8, some 0), (9, some 0), (10, some 0), (11, some 0), (12, some 0), (13, some 0), (14, some 0), (15, some 0), (16, some 0), (17, some 0), (18, some 0), (19, some 0), (20, some 0), (21, some 0), (22, some 0), (23, some 0), (24, some 0)] (by kernel_rfl) (by kernel_rfl) (by kernel_rfl) (by kernel_rfl) (by kernel_rfl) (fun _ _ _ _ _ h => h) ⟨d1, y0, y1⟩ ?_
          simp only [List.map_cons, List.map_nil, List.getD_cons_succ, List.getD_cons_zero]
          (repeat (first | (refine qs_now (v := ?_) (by rfl) ?_ ?_; rotate_left 1; (· (intro w' hS; go_simp; (try (simp only [↓IntWalk.iteOmega]; go_simp)); (try simp (disch := omega) only [IntWalk.i64_in]); try with_reducible rfl)); simp only [Act.put, List.setIfInBounds_toArray, List.set_cons_zero, List.set_cons_succ]) | (refine qs_run (v := ?_) (by rfl) ?_ ?_; rotate_left 1; (· (intro j w' hS; go_simp; (try (simp only [↓IntWalk.iteOmega]; go_simp)); (try simp (disch := omega) only [IntWalk.i64_in]); try with_reducible rfl)); simp only [Act.put, List.setIfInBounds_toArray, List.set_cons_zero, List.set_cons_succ]) | (refine qs_mid (v := ?_) (by rfl) ?_ ?_; rotate_left 1; (· (intro j w' hj1 hj2 hS; go_simp; (try (simp only [↓IntWalk.iteOmega]; go_simp)); (try simp (disch := omega) only [IntWalk.i64_in]); try with_reducible rfl)); simp only [Act.put, List.setIfInBounds_toArray, List.set_cons_zero, List.set_cons_succ]) | (refine qs_skip (by rfl) ?_; simp only [Act.put, List.setIfInBounds_toArray, List.set_cons_zero, List.set_cons_succ])))
          refine qs_nil ?_
          go_wp2
          go_roundg f
          case measure => omega
          case rel =>
            refine ⟨k + 1, by go_num, by omega, ?_, HBl.out.drew⟩
            rw [HM.out, HS.out, if_pos he]
        · have heI : (z0 == z1) = false := by simpa using he
          go_wp2
          refine wp_region_qs (fun _ w' => w'.cell? ⟨p1, 0, none⟩ = some (.slice (some ⟨bb, off, none⟩) n c) ∧ w'.cell? ⟨bb, off + ((from' : Int) + (k : Int)).toNat, none⟩ = some (.int .u8 z0) ∧ w'.cell? ⟨bb, off + ((at' : Int) + (k : Int)).toNat, none⟩ = some (.int .u8 z1)) [(0, some 0), (1, some 0), (2, some 0), (3, some 0), (4, some 0), (5, some 0), (6, some 0), (7, some 0), (8, some 0), (9, some 0), (10, some 0), (11, some 0), (12, some 0), (13, some 0), (14, some 0), (15, some 0), (16, some 0), (17, some 0), (18, some 0), (19, some 0), (20, some 0), (21, some 0), (22, some 0), (23, some 0), (24, some 0)] (by kernel_rfl) (by kernel_rfl) (by kernel_rfl) (by kernel_rfl) (by kernel_rfl) (fun _ _ _ _ _ h => h) ⟨d1, y0, y1⟩ ?_
          simp only [List.map_cons, List.map_nil, List.getD_cons_succ, List.getD_cons_zero]
          (repeat (first | (refine qs_now (v := ?_) (by rfl) ?_ ?_; rotate_left 1; (· (intro w' hS; go_simp; (try (simp only [↓IntWalk.iteOmega]; go_simp)); (try simp (disch := omega) only [IntWalk.i64_in]); try with_reducible rfl)); simp only [Act.put, List.setIfInBounds_toArray, List.set_cons_zero, List.set_cons_succ]) | (refine qs_run (v := ?_) (by rfl) ?_ ?_; rotate_left 1; (· (intro j w' hS; go_simp; (try (simp only [↓IntWalk.iteOmega]; go_simp)); (try simp (disch := omega) only [IntWalk.i64_in]); try with_reducible rfl)); simp only [Act.put, List.setIfInBounds_toArray, List.set_cons_zero, List.set_cons_succ]) | (refine qs_mid (v := ?_) (by rfl) ?_ ?_; rotate_left 1; (· (intro j w' hj1 hj2 hS; go_simp; (try (simp only [↓IntWalk.iteOmega]; go_simp)); (try simp (disch := omega) only [IntWalk.i64_in]); try with_reducible rfl)); simp only [Act.put, List.setIfInBounds_toArray, List.set_cons_zero, List.set_cons_succ]) | (refine qs_skip (by rfl) ?_; simp only [Act.put, List.setIfInBounds_toArray, List.set_cons_zero, List.set_cons_succ])))
          refine qs_nil ?_
          go_wp2
          go_ret
          refine ⟨?_, HBl.out.drew⟩
          have e : matchL b from' at' = k := by unfold matchL; rw [HM.out, HS.out, if_neg he]
          rw [e]
          rfl
      · have hinI : ¬ (at' : Int) + (k : Int) < (n : Int) := by omega
        have hinD : decide ((at' : Int) + (k : Int) < (n : Int)) = false := by simpa using hinI
        have HS := Lib.hid (show mlGo b from' at' (f + 1) k = k by
          rw [mlGo]
          exact if_neg (fun h => hin (by have := h.1; omega)))
        go_wp2
        refine wp_region_qs (fun _ w' => w'.cell? ⟨p1, 0, none⟩ = some (.slice (some ⟨bb, off, none⟩) n c)) [(0, some 0), (1, some 0), (2, some 0), (3, some 0), (4, some 0), (5, some 0), (6, some 0), (7, some 0), (8, some 0), (9, some 0), (10, some 0), (11, some 0), (12, some 0), (13, some 0), (14, some 0), (15, some 0), (16, some 0), (17, some 0), (18, some 0), (19, some 0), (20, some 0), (21, some 0), (22, some 0), (23, some 0), (24, some 0)] (by kernel_rfl) (by kernel_rfl) (by kernel_rfl) (by kernel_rfl) (by kernel_rfl) (fun _ _ _ _ _ h => h) d1 ?_
        simp only [List.map_cons, List.map_nil, List.getD_cons_succ, List.getD_cons_zero]
        (repeat (first | (refine qs_now (v := ?_) (by rfl) ?_ ?_; rotate_left 1; (· (intro w' hS; go_simp; (try (simp only [↓IntWalk.iteOmega]; go_simp)); (try simp (disch := omega) only [IntWalk.i64_in]); try with_reducible rfl)); simp only [Act.put, List.setIfInBounds_toArray, List.set_cons_zero, List.set_cons_succ]) | (refine qs_run (v := ?_) (by rfl) ?_ ?_; rotate_left 1; (· (intro j w' hS; go_simp; (try (simp only [↓IntWalk.iteOmega]; go_simp)); (try simp (disch := omega) only [IntWalk.i64_in]); try with_reducible rfl)); simp only [Act.put, List.setIfInBounds_toArray, List.set_cons_zero, List.set_cons_succ]) | (refine qs_mid (v := ?_) (by rfl) ?_ ?_; rotate_left 1; (· (intro j w' hj1 hj2 hS; go_simp; (try (simp only [↓IntWalk.iteOmega]; go_simp)); (try simp (disch := omega) only [IntWalk.i64_in]); try with_reducible rfl)); simp only [Act.put, List.setIfInBounds_toArray, List.set_cons_zero, List.set_cons_succ]) | (refine qs_skip (by rfl) ?_; simp only [Act.put, List.setIfInBounds_toArray, List.set_cons_zero, List.set_cons_succ])))
        refine qs_nil ?_
        go_wp2
        go_ret
        refine ⟨?_, HBl.out.drew⟩
        have e : matchL b from' at' = k := by unfold matchL; rw [HM.out, HS.out]
        rw [e]
        rfl
    · have h258I : ¬ (k : Int) < 258 := by omega
      have h258D : decide ((k : Int) < 258) = false := by simpa using h258I
      have h258E : decide (k < 258) = false := by simpa using h258
      have h0 : gk = 0 := by omega
      subst h0
      go_wp2
      refine wp_region_qs (fun _ w' => w'.cell? ⟨p1, 0, none⟩ = some (.slice (some ⟨bb, off, none⟩) n c)) [(0, some 0), (1, some 0), (2, some 0), (3, some 0), (4, some 0), (5, some 0), (6, some 0), (7, some 0), (8, some 0), (9, some 0), (10, some 0), (11, some 0), (12, some 0), (13, some 0), (14, some 0), (15, some 0), (16, some 0), (17, some 0), (18, some 0), (19, some 0), (20, some 0), (21, some 0), (22, some 0), (23, some 0), (24, some 0)] (by kernel_rfl) (by kernel_rfl) (by kernel_rfl) (by kernel_rfl) (by kernel_rfl) (fun _ _ _ _ _ h => h) d1 ?_
      simp only [List.map_cons, List.map_nil, List.getD_cons_succ, List.getD_cons_zero]
      (repeat (first | (refine qs_now (v := ?_) (by rfl) ?_ ?_; rotate_left 1; (· (intro w' hS; go_simp; (try (simp only [↓IntWalk.iteOmega]; go_simp)); (try simp (disch := omega) only [IntWalk.i64_in]); try with_reducible rfl)); simp only [Act.put, List.setIfInBounds_toArray, List.set_cons_zero, List.set_cons_succ]) | (refine qs_run (v := ?_) (by rfl) ?_ ?_; rotate_left 1; (· (intro j w' hS; go_simp; (try (simp only [↓IntWalk.iteOmega]; go_simp)); (try simp (disch := omega) only [IntWalk.i64_in]); try with_reducible rfl)); simp only [Act.put, List.setIfInBounds_toArray, List.set_cons_zero, List.set_cons_succ]) | (refine qs_mid (v := ?_) (by rfl) ?_ ?_; rotate_left 1; (· (intro j w' hj1 hj2 hS; go_simp; (try (simp only [↓IntWalk.iteOmega]; go_simp)); (try simp (disch := omega) only [IntWalk.i64_in]); try with_reducible rfl)); simp only [Act.put, List.setIfInBounds_toArray, List.set_cons_zero, List.set_cons_succ]) | (refine qs_skip (by rfl) ?_; simp only [Act.put, List.setIfInBounds_toArray, List.set_cons_zero, List.set_cons_succ])))
      refine qs_nil ?_
      go_wp2
      go_ret
      refine ⟨?_, HBl.out.drew⟩
      have e : matchL b from' at' = k := by
        unfold matchL
        generalize mlGo b from' at' 258 0 = X at *
        exact HM.out.trans (mlGo_zero _ _ _ _)
      rw [e]
      rfl
end Go.Proofs.YthmcdohndckniaaGreatDoor
namespace Go.Proofs.YthmcdohndckniaaGreatDoor
open Go.RowKit
set_option linter.unusedVariables false

theorem infoPiece3 : (Tryz.prog.info? 81).map (fun i => (i.zero, i.size, i.bytes)) = some (some (.agg #[.int .u8 0, .int .i64 0, .int .i64 0]), 3, 24) := by kernel_rfl
def ParsePost (b : List Int) (w : World) (ev : Ending) (w' : World) : Prop :=
  ∃ A c, ev = .returned (.slice A (parseP b).length c) ∧ w'.ownsRow w.heap.size 81 3 (.slice A (parseP b).length c) (parseP b).length ((parseP b).flatMap pcell) ∧ Below w.heap.size w w'
/-- Where only pieces turn, all of it stays. -/
theorem LzOk.pieces {w w' : World} {b : List Int} {A : Option Addr} {n c p1 p4 p3 ga m k : Nat} (h : LzOk w b A n c p1 p4 p3 ga m k) {row : Option Nat} (hg : w.grownBy w' row) (hr : ∀ j, row = some j → (∃ cs, Blk w j 81 cs) ∧ ∀ bb off, A = some ⟨bb, off, none⟩ → bb ≠ j) : LzOk w' b A n c p1 p4 p3 ga m k := by
  have hn : ∀ {j : Nat} {t : TypeId} {cs : Array Value}, Blk w j t cs → t ≠ 81 → some j ≠ row := fun {j t cs} hb ht e => by
    obtain ⟨⟨cs2, hb2⟩, _⟩ := hr j e.symm
    exact blk_ne hb hb2 ht rfl
  obtain ⟨D, hm, hl⟩ := h.map
  obtain ⟨cs2, hrb⟩ := row_blk h.row
  refine ⟨h.b1.grown hg (hn h.b1 (by decide)), h.b4.grown hg (hn h.b4 (by decide)), h.b3.grown hg (hn h.b3 (by decide)), ⟨h.bytes.1, fun h0 => ?_⟩, h.row.kept hg ?_, D, hm.kept hg ?_, hl⟩
  · obtain ⟨bb, off, e, hlt, hc⟩ := h.bytes.2 h0
    refine ⟨bb, off, e, Nat.lt_of_lt_of_le hlt hg.size, fun j hj => (World.cell?_of_block (a := ⟨bb, off + j, none⟩) (hg.block bb hlt (fun e2 => ?_))).trans (hc j hj)⟩
    exact (hr bb e2.symm).2 bb off e rfl
  · by_cases e : row = none
    · right; rw [e]; simp [Value.ownBlock]
    · right
      intro e2
      exact hn hrb (by decide) e2
  · intro e
    obtain ⟨⟨cs3, hb3⟩, _⟩ := hr m e.symm
    exact map_ne hm hb3 rfl
theorem row_typ {w : World} {base size n : Nat} {t : TypeId} {v : Value} {xs : List Value} (h : w.ownsRow base t size v n xs) : ∀ j, v.ownBlock = some j → ∃ cs, Blk w j t cs := by
  intro j hj
  rcases h.2 with ⟨rfl, _⟩ | ⟨g', cap, cur, rfl, _, hg, _⟩
  · cases hj
  · simp only [Value.ownBlock, Option.some.injEq] at hj
    subst hj
    exact ⟨cur, hg⟩
theorem grown_put3 (w : World) (g i j k : Nat) (a b c : Value) : w.grownBy (((w.setCell ⟨g, i, none⟩ a).setCell ⟨g, j, none⟩ b).setCell ⟨g, k, none⟩ c) (some g) :=
  ((grown_put w ⟨g, i, none⟩ a).trans (grown_put (w.setCell ⟨g, i, none⟩ a) ⟨g, j, none⟩ b)).trans (grown_put ((w.setCell ⟨g, i, none⟩ a).setCell ⟨g, j, none⟩ b) ⟨g, k, none⟩ c)
theorem blk_put3 {w : World} {g : Nat} {t : TypeId} {x y z : Value} (h : Blk w g t #[x, y, z]) (a b c : Value) : Blk (((w.setCell ⟨g, 0, none⟩ a).setCell ⟨g, 1, none⟩ b).setCell ⟨g, 2, none⟩ c) g t #[a, b, c] :=
  ((h.put 0 a).put 1 b).put 2 c
/-- The outer loop. -/
def PrI (b : List Int) (A : Option Addr) (n c p1 p4 p3 ga m : Nat) (W : World) (f : Nat) (ov av : Value) (wr : World) : Prop :=
  ∃ (at' : Nat) (out : List Pc), at' ≤ n ∧ n ≤ at' + f ∧ av = .int .i64 (at' : Int) ∧ LzOk wr b A n c p1 p4 p3 ga m at' ∧ wr.ownsRow W.heap.size 81 3 ov out.length (out.flatMap pcell) ∧ out ++ parseGo b f at' = parseP b ∧ out.length ≤ at' ∧ Below W.heap.size W wr
/-- The walk over earlier places. -/
def BsI (b : List Int) (A : Option Addr) (n c p1 p4 p3 ga m at' g9 : Nat) (out : List Pc) (ov : Value) (W : World) (f : Nat) (fv nv : Value) (wr : World) : Prop :=
  ∃ (from' : Int) (p : Pc), fv = .int .i64 from' ∧ (∃ k : Nat, nv = .int .i64 (k : Int) ∧ k + f = 24) ∧ -1 ≤ from' ∧ from' < (at' : Int) ∧ Blk wr g9 81 #[.int .u8 (p.b : Int), .int .i64 (p.n : Int), .int .i64 (p.d : Int)] ∧ LzOk wr b A n c p1 p4 p3 ga m (at' + 1) ∧ wr.ownsRow W.heap.size 81 3 ov out.length (out.flatMap pcell) ∧ bestGo b at' f from' p = bestP b at' ∧ Below W.heap.size W wr ∧ p.n ≤ 258
/-- The places of a match. -/
def PlI (b : List Int) (A : Option Addr) (n c p1 p4 p3 ga m at' g9 : Nat) (q : Pc) (out : List Pc) (ov : Value) (W : World) (M f : Nat) (av jv : Value) (wr : World) : Prop :=
  ∃ j : Nat, av = .int .i64 ((at' : Int) + (j : Int)) ∧ jv = .int .i64 (j : Int) ∧ j + f = M ∧ Blk wr g9 81 #[.int .u8 (q.b : Int), .int .i64 (q.n : Int), .int .i64 (q.d : Int)] ∧ LzOk wr b A n c p1 p4 p3 ga m (at' + 1 + j) ∧ wr.ownsRow W.heap.size 81 3 ov out.length (out.flatMap pcell) ∧ Below W.heap.size W wr
set_option maxHeartbeats 3200000 in
set_option maxRecDepth 100000 in
theorem parse_any (b : List Int) (A : Option Addr) (n c : Nat) (w : World) (hr : RdI .u8 w A n b) (hB : ∀ z ∈ b, 0 ≤ z ∧ z < 256) (hn : n ≤ 65536) (hc : n ≤ c) :
    Calls Tryz.prog 15 #[.slice A n c] w (ParsePost b w) := by
  have HR := Lib.hid hr
  have HBy := Lib.hid hB
  have hbl : b.length = n := hr.1
  have hnI : ¬ (65536 : Int) < (n : Int) := by omega
  clear hr hB
  have hmm := @run_makeMap Tryz.prog
  obtain ⟨wM, hwM⟩ : ∃ wM, wM = ((w.alloc (.cells #[.slice A n c] 22)).alloc (.map #[] 0)).alloc (.cells #[.map (some (w.heap.size + 1))] 74) := ⟨_, rfl⟩
  have LM := Lib.hid (show Below w.heap.size w wM by rw [hwM]; exact (((Below.refl _ _).alloc (Nat.le_refl _) _).alloc (by simp) _).alloc (by simp; omega) _)
  have hsM : wM.heap.size = w.heap.size + 3 := by rw [hwM]; simp
  have MM := Lib.hid (show wM.ownsMap Tryz.prog 77 (plainElem (H := Unit) Tryz.prog 3) (w.heap.size + 1) 0 (.map []) by
    rw [hwM]
    have h1 := World.ownsMap_made (H := Unit) (w.alloc (.cells #[.slice A n c] 22)) Tryz.prog 77 (plainElem (H := Unit) Tryz.prog 3)
    simp at h1
    exact h1.alloc _)
  have K1 := Lib.hid (show Blk wM w.heap.size 22 #[.slice A n c] by rw [hwM]; exact ((Blk.made _ _ _).alloc _).alloc _)
  have K3 := Lib.hid (show Blk wM (w.heap.size + 2) 74 #[.map (some (w.heap.size + 1))] by rw [hwM]; exact Blk.made_at _ _ _ (by simp))
  have d1 := K1.out.cell (i := 0) rfl
  rw [hwM] at d1
  go_enter Tryz.func15, Tryz.ntmps15
  go_wp2_with (at_make; refine heldG ?_)
  unfold HeldG
  rw [← hwM]
  clear hwM d1
  refine mk_ints rfl (.tmp 18) (.tmp 18) rfl w.heap.size n _ _ rfl rfl rfl rfl (by omega) (by omega) ?_
  intro wN hoN hgN
  rw [hsM] at hoN ⊢
  have SN := Lib.hid hgN
  have ON := Lib.hid hoN
  have hltN : w.heap.size + 3 < wN.heap.size := (hoN.lt _ rfl).2
  clear hgN hoN
  have hmf : ∀ (fn : Fn) (first cap : Array Value) (W : World), (Instr.makeFunc fn first cap).run Tryz.prog W = .ok (.func fn first cap) W := fun _ _ _ _ => rfl
  have hp4 : w.heap.size + 4 ≤ wN.heap.size := by omega
  obtain ⟨wO, hwO⟩ : ∃ wO, wO = wN.alloc (.cells #[.slice (some ⟨w.heap.size + 3, 0, none⟩) n n] 75) := ⟨_, rfl⟩
  have LN := Lib.hid (show Below wM.heap.size wM wN from (Below.refl _ _).grown SN.out (Nat.le_refl _) (fun k hk => by cases hk))
  have LO := Lib.hid (show Below wN.heap.size wN wO by rw [hwO]; exact (Below.refl _ _).alloc (Nat.le_refl _) _)
  have LMO := Lib.hid (show Below w.heap.size w wO from (LM.out.trans (LN.out.mono (by omega))).trans (LO.out.mono (by omega)))
  have HOk := Lib.hid (show LzOk wO b A n c w.heap.size wN.heap.size (w.heap.size + 2) (w.heap.size + 3) (w.heap.size + 1) 0 from ⟨(K1.out.below LN.out (by omega)).below LO.out (by omega), by rw [hwO]; exact Blk.made _ _ _, (K3.out.below LN.out (by omega)).below LO.out (by omega), HR.out.below LMO.out, by
      rw [aheadL_zero, hbl]
      have h1 := own_below (ownbase ON.out (Nat.zero_le _)) LO.out
      simpa using h1, .map [], (MM.out.kept SN.out (by simp)).kept (row := none) (w' := wO) (by rw [hwO]; exact World.grownBy_alloc _ _ _) (by simp), LastOk.zero b⟩)
  have hlo : ∀ bb off, A = some ⟨bb, off, none⟩ → 0 < n → bb ≠ w.heap.size + 3 ∧ bb ≠ w.heap.size + 1 := fun bb off e h0 => by
    obtain ⟨b', o', e', hlt, _⟩ := HR.out.2 h0
    rw [e] at e'
    injection e' with e'
    injection e' with e1 e2
    omega
  go_wp2
  rw [← hwO]
  clear hwO LN LO SN ON K1 K3 MM LM hsM hltN
  go_loopg [7, 8] n (PrI b A n c w.heap.size wN.heap.size (w.heap.size + 2) (w.heap.size + 3) (w.heap.size + 1) w)
  case atStart => exact ⟨0, [], by omega, by omega, rfl, HOk.out, World.ownsRow_nil _ _ _ _, by simp [parseP, hbl], by simp, LMO.out⟩
  case round =>
    clear HOk LMO
    obtain ⟨at', out, hat, hf, rfl, hok, ho, hpar, hol, hb⟩ := hrel
    have d1 := hok.b1.cell (i := 0) rfl
    have HOk := Lib.hid hok
    have HO := Lib.hid ho
    have HP := Lib.hid hpar
    have HB := Lib.hid hb
    clear hok ho hpar hb
    obtain ⟨wq, hwq⟩ : ∃ wq : World, wq = wr := ⟨_, rfl⟩
    subst hwq
    by_cases hlt : at' < n
    · have hltI : (at' : Int) < (n : Int) := by omega
      obtain ⟨f, rfl⟩ : ∃ f, gk = f + 1 := ⟨gk - 1, by omega⟩
      obtain ⟨bb, off, rfl, hblt, hcell⟩ := HOk.out.bytes.2 (by omega)
      have hlo2 := fun b' o' e => hlo b' o' e (by omega)
      have hov : ∀ k, Value.ownBlock u7 = some k → w.heap.size ≤ k ∧ k < wq.heap.size := fun k hk => HO.out.lt k hk
      have hbw : bb < w.heap.size := by
        obtain ⟨b', o', e', hlt', _⟩ := HR.out.2 (by omega)
        injection e' with e'
        injection e' with e1 e2
        omega
      have x0 := hcell at' hlt
      have hz := HBy.out (b.getD at' 0) (by simp [show at' < b.length by omega])
      obtain ⟨z, hz'⟩ : ∃ z : Nat, b.getD at' 0 = (z : Int) := ⟨(b.getD at' 0).toNat, by omega⟩
      rw [hz'] at x0 hz
      have HZ := Lib.hid hz'
      clear hcell hz'
      obtain ⟨wA, hwA⟩ : ∃ wA, wA = wq.alloc (.cells #[.int .u8 (z : Int), .int .i64 0, .int .i64 0] 81) := ⟨_, rfl⟩
      have LA := Lib.hid (show Below wq.heap.size wq wA by rw [hwA]; exact (Below.refl _ _).alloc (Nat.le_refl _) _)
      have KA := Lib.hid (show Blk wA wq.heap.size 81 #[.int .u8 (z : Int), .int .i64 0, .int .i64 0] by rw [hwA]; exact Blk.made _ _ _)
      have HA := Lib.hid (HOk.out.below LA.out)
      have OA := Lib.hid (own_below HO.out LA.out)
      have BA := Lib.hid (show Below w.heap.size w wA from HB.out.trans (LA.out.mono HB.out.size))
      go_wp2_with fail
      rw [← hwA]
      clear hwA d1
      refine (lzput_any b (some ⟨bb, off, none⟩) n c w.heap.size wN.heap.size (w.heap.size + 2) (w.heap.size + 3) (w.heap.size + 1) at' wA HA.out HBy.out hn hc hlt hlo2).mono ?_
      rintro ev w1 ⟨rfl, hok1, hst1⟩
      have H1 := Lib.hid hok1
      have O1 := Lib.hid (hst1.row HA.out OA.out (by decide))
      have K1 := Lib.hid (hst1.blk HA.out KA.out (by decide))
      have B1 := Lib.hid (BA.out.trans (hst1.below (by omega) (by omega) BA.out.size))
      have d1 := hok1.b1.cell (i := 0) rfl
      have d4 := hok1.b4.cell (i := 0) rfl
      clear hok1 hst1
      have hfit := bestP_fits HBy.out (b := b) (at' := at') (by omega)
      have HFit := Lib.hid (fits_say hfit).2.2
      have HN258 := Lib.hid (show (bestP b at').n ≤ 258 by rcases hfit with h | h <;> omega)
      clear hfit
      by_cases h3 : at' + 3 ≤ n
      · have h3I : (at' : Int) + 3 ≤ (n : Int) := by omega
        have r1 := H1.out.row.cellAt at' (by omega)
        rw [ints_get (by rw [aheadL_len]; omega), aheadL_get (by omega) (by omega)] at r1
        have hpa := prevA_lt b at'
        have HPA := Lib.hid hpa
        have HBP := Lib.hid (show bestP b at' = bestGo b at' 24 (prevA b at') ⟨(b.getD at' 0).toNat, 0, 0⟩ by unfold bestP; rw [if_pos (by omega)])
        have hpa1 := hpa.1
        have hpa2 := hpa.2.1
        clear hpa
        go_wp2
        go_loopg [10, 11] 24 (BsI b (some ⟨bb, off, none⟩) n c w.heap.size wN.heap.size (w.heap.size + 2) (w.heap.size + 3) (w.heap.size + 1) at' wq.heap.size out u7 w)
        case atStart =>
          refine ⟨prevA b at', ⟨z, 0, 0⟩, rfl, ⟨0, rfl, rfl⟩, hpa1, hpa2, K1.out, H1.out, O1.out, ?_, B1.out, by simp⟩
          rw [HBP.out, HZ.out]
          rfl
        case round =>
          clear H1 O1 K1 B1 HBP d1 d4 r1
          obtain ⟨from', p, rfl, ⟨k, rfl, hk⟩, hf1, hf2, hk9, hok2, ho2, hbest, hb2, hp258⟩ := hrel
          have d1 := hok2.b1.cell (i := 0) rfl
          have d4 := hok2.b4.cell (i := 0) rfl
          have p0 := hk9.cell (i := 0) rfl
          have p1 := hk9.cell (i := 1) rfl
          have p2 := hk9.cell (i := 2) rfl
          have K2 := Lib.hid hk9
          have H2 := Lib.hid hok2
          have O2 := Lib.hid ho2
          have HBest := Lib.hid hbest
          have B2 := Lib.hid hb2
          clear hk9 hok2 ho2 hbest hb2
          by_cases hgo : 0 ≤ from' ∧ (at' : Int) - from' ≤ 32768
          · obtain ⟨hg1, hg2⟩ := hgo
            obtain ⟨fm, rfl⟩ : ∃ fm : Nat, from' = (fm : Int) := ⟨from'.toNat, by omega⟩
            by_cases hk24 : k < 24
            · have hkI : (k : Int) < 24 := by omega
              obtain ⟨e, rfl⟩ : ∃ e, gk = e + 1 := ⟨gk - 1, by omega⟩
              have HB2 := Lib.hid (show bestP b at' = bestGo b at' e (prevA b fm) (if p.n < matchL b fm at' then ⟨0, matchL b fm at', at' - fm⟩ else p) by
                rw [← HBest.out, bestGo, if_pos ⟨hg1, hg2⟩, Int.toNat_natCast])
              have hcall := lzlen_any b (some ⟨bb, off, none⟩) n c w.heap.size fm at' wr H2.out.b1 H2.out.bytes hn (by omega) hlt
              have hmm258 : matchL b fm at' ≤ 258 := (matchL_is b fm at' (by omega)).2
              generalize matchL b fm at' = mm at hcall HB2 hmm258
              have hpf := prevA_lt b fm
              have hpf1 := hpf.1
              have hpf2 := hpf.2.1
              clear hpf HBest
              go_wp2_with fail
              refine hcall.mono ?_
              clear hcall
              rintro ev w5 ⟨rfl, hb5⟩
              have L5 := Lib.hid hb5
              have H5 := Lib.hid (H2.out.below hb5)
              have O5 := Lib.hid (own_below O2.out hb5)
              have K5 := Lib.hid (K2.out.below hb5 K2.out.lt)
              have B5 := Lib.hid (show Below w.heap.size w w5 from B2.out.trans (hb5.mono B2.out.size))
              clear hb5 d1 d4 p0 p1 p2
              have d4 := H5.out.b4.cell (i := 0) rfl
              have r1 := H5.out.row.cellAt fm (by omega)
              rw [ints_get (by rw [aheadL_len]; omega), aheadL_get (by omega) (by omega)] at r1
              have p1 := K5.out.cell (i := 1) rfl
              have hfmI : (fm : Int) < (n : Int) := by omega
              by_cases hgt : p.n < mm
              · have hgtI : (p.n : Int) < (mm : Int) := by omega
                rw [if_pos hgt] at HB2
                have f0 := K5.out.free 0
                have f1 := K5.out.free 1
                have f2 := K5.out.free 2
                have p0 := K5.out.cell (i := 0) rfl
                have p2 := K5.out.cell (i := 2) rfl
                have hdd : (at' : Int) - (fm : Int) = ((at' - fm : Nat) : Int) := by omega
                obtain ⟨w6, hw6⟩ : ∃ w6, w6 = ((w5.setCell ⟨wq.heap.size, 0, none⟩ (.int .u8 0)).setCell ⟨wq.heap.size, 1, none⟩ (.int .i64 (mm : Int))).setCell ⟨wq.heap.size, 2, none⟩ (.int .i64 ((at' - fm : Nat) : Int)) := ⟨_, rfl⟩
                have G6 := Lib.hid (show w5.grownBy w6 (some wq.heap.size) by rw [hw6]; exact grown_put3 w5 wq.heap.size 0 1 2 _ _ _)
                have K6 := Lib.hid (show Blk w6 wq.heap.size 81 #[.int .u8 (((⟨0, mm, at' - fm⟩ : Pc).b : Nat) : Int), .int .i64 (((⟨0, mm, at' - fm⟩ : Pc).n : Nat) : Int), .int .i64 (((⟨0, mm, at' - fm⟩ : Pc).d : Nat) : Int)] by
                  rw [hw6]
                  exact blk_put3 K5.out _ _ _)
                have H6 := Lib.hid (H5.out.pieces G6.out (fun j hj => by
                  injection hj with hj
                  subst hj
                  refine ⟨⟨_, K5.out⟩, fun b' o' e => ?_⟩
                  injection e with e
                  injection e with e1 e2
                  have := HB.out.size
                  omega))
                have O6 := Lib.hid (O5.out.kept G6.out (by
                  right
                  intro e
                  have := (hov _ e).2
                  omega))
                have B6 := Lib.hid (B5.out.grown G6.out B5.out.size (fun k hk => by injection hk with hk; have := HB.out.size; omega))
                have e4 := H6.out.b4.cell (i := 0) rfl
                have e1 := H6.out.row.cellAt fm (by omega)
                rw [ints_get (by rw [aheadL_len]; omega), aheadL_get (by omega) (by omega)] at e1
                rw [hw6] at e4 e1
                go_wp2
                rw [← hw6]
                clear hw6 e4 e1
                go_roundg e
                case measure => omega
                case rel =>
                  exact ⟨prevA b fm, ⟨0, mm, at' - fm⟩, rfl, ⟨k + 1, by go_num, by omega⟩, hpf1, by omega, K6.out, H6.out, O6.out, HB2.out.symm, B6.out, hmm258⟩
              · have hgtI : ¬ (p.n : Int) < (mm : Int) := by omega
                rw [if_neg hgt] at HB2
                go_wp2
                go_roundg e
                case measure => omega
                case rel =>
                  exact ⟨prevA b fm, p, rfl, ⟨k + 1, by go_num, by omega⟩, hpf1, by omega, K5.out, H5.out, O5.out, HB2.out.symm, B5.out, hp258⟩
            · have hkI : ¬ (k : Int) < 24 := by omega
              have h0 : gk = 0 := by omega
              subst h0
              have HQ := Lib.hid (show bestP b at' = p from HBest.out.symm)
              have HFQ := Lib.hid (show at' + max p.n 1 ≤ b.length by have h1 := HFit.out; rw [HQ.out] at h1; exact h1)
              rcases Nat.eq_zero_or_pos p.n with hn0 | hn1
              · have hat1 : at' + max p.n 1 = at' + 0 + 1 := by rw [hn0]; rfl
                have HAT1 := Lib.hid hat1
                clear hat1
                rw [hn0, show ((0 : Nat) : Int) = 0 from rfl] at p1
                go_wp2
                go_loopg [8, 78] 0 (PlI b (some ⟨bb, off, none⟩) n c w.heap.size wN.heap.size (w.heap.size + 2) (w.heap.size + 3) (w.heap.size + 1) at' wq.heap.size p out u7 w 0)
                case atStart => exact ⟨0, by simp, rfl, rfl, K2.out, H2.out, O2.out, B2.out⟩
                case round =>
                  clear H2 O2 B2 K2 p0 p1 p2 d1 d4
                  obtain ⟨j, rfl, rfl, hj, hk5, hok5, ho5, hb5⟩ := hrel
                  obtain rfl : j = 0 := by omega
                  have p0 := hk5.cell (i := 0) rfl
                  have p1 := hk5.cell (i := 1) rfl
                  have p2 := hk5.cell (i := 2) rfl
                  have H5 := Lib.hid hok5
                  have O5 := Lib.hid ho5
                  have B5 := Lib.hid hb5
                  have hol' : out.length ≤ 65536 := by omega
                  clear hk5 hok5 ho5 hb5
                  go_wp2_with (refine app_src rfl (.tmp 88) (.tmp 90) 35 rfl w.heap.size 81 _ 3 24 Tryz.underlying35 infoPiece3 rfl (by omega) _ out.length _ rfl (O5.out.alloc _) _ 1 _ rfl (Src.of_blk (Blk.made _ _ _) rfl) (by simp [Value.oneCell']) (by omega) (by omega) (by have := B5.out.size; simp; omega) ?_; intro v4 w4 ho4 hg4 hor4)
                  have L5 := (Below.refl wr.heap.size wr).alloc (Nat.le_refl _) (.cells #[.int .u8 (p.b : Int), .int .i64 0, .int .i64 (p.d : Int)] 81)
                  have H7 := (H5.out.below L5).pieces hg4 (fun j hj => ⟨row_typ (own_below O5.out L5) j hj, fun b' o' e => by
                    injection e with e
                    injection e with e1 e2
                    have := (hov j hj).1
                    omega⟩)
                  have B7 : Below w.heap.size w w4 := (B5.out.alloc B5.out.size _).grown hg4 (by have := B5.out.size; simp; omega) (fun k hk => (hov k hk).1)
                  have hAT : at' + 1 + (0) = at' + max p.n 1 := by rw [HAT1.out] <;> omega
                  rw [hAT] at H7
                  go_roundg f
                  case measure => omega
                  case rel =>
                    refine ⟨at' + max p.n 1, out ++ [p], by have := HFQ.out; omega, by omega, ?_, H7, ?_, ?_, ?_, B7⟩
                    · rw [HAT1.out]; go_num
                    · rw [List.length_append, List.flatMap_append]
                      simpa [pcell, hn0] using ho4
                    · rw [← HP.out]
                      conv => rhs; rw [parseGo, if_pos (show at' < b.length by omega), HQ.out]
                      simp
                    · rw [List.length_append, List.length_singleton]
                      omega
              · have hat1 : at' + max p.n 1 = at' + (p.n - 1) + 1 := by rw [Nat.max_eq_left hn1]; omega
                have HAT1 := Lib.hid hat1
                clear hat1
                have hn1I : (1 : Int) ≤ (p.n : Int) := by omega
                have hn1J : ¬ (p.n : Int) < 1 := by omega
                go_wp2
                go_loopg [8, 78] (p.n - 1) (PlI b (some ⟨bb, off, none⟩) n c w.heap.size wN.heap.size (w.heap.size + 2) (w.heap.size + 3) (w.heap.size + 1) at' wq.heap.size p out u7 w (p.n - 1))
                case atStart => exact ⟨0, by simp, rfl, by omega, K2.out, H2.out, O2.out, B2.out⟩
                case round =>
                  clear H2 O2 B2 K2 p0 p1 p2 d1 d4
                  obtain ⟨j, rfl, rfl, hj, hk5, hok5, ho5, hb5⟩ := hrel
                  by_cases hjM : j < p.n - 1
                  · have hjI : (j : Int) < (p.n : Int) - 1 := by omega
                    have H5 := Lib.hid hok5
                    have hlt5 : at' + 1 + j < n := by have := HFQ.out; rw [HAT1.out] at this; omega
                    have K5 := Lib.hid hk5
                    have O5 := Lib.hid ho5
                    have B5 := Lib.hid hb5
                    clear hk5 hok5 ho5 hb5
                    go_wp2_with fail
                    rw [show (at' : Int) + (j : Int) + 1 = ((at' + 1 + j : Nat) : Int) by omega]
                    refine (lzput_any b (some ⟨bb, off, none⟩) n c w.heap.size wN.heap.size (w.heap.size + 2) (w.heap.size + 3) (w.heap.size + 1) (at' + 1 + j) wr H5.out HBy.out hn hc hlt5 hlo2).mono ?_
                    rintro ev w6 ⟨rfl, hok6, hst6⟩
                    have H6 := Lib.hid hok6
                    have K6 := Lib.hid (hst6.blk H5.out K5.out (by decide))
                    have O6 := Lib.hid (hst6.row H5.out O5.out (by decide))
                    have B6 := Lib.hid (B5.out.trans (hst6.below (by omega) (by omega) B5.out.size))
                    clear hok6 hst6
                    go_wp2
                    go_roundg (gk - 1)
                    case measure => omega
                    case rel => exact ⟨j + 1, by go_num, by go_num, by omega, K6.out, H6.out, O6.out, B6.out⟩
                  · obtain rfl : j = p.n - 1 := by omega
                    have hjI : ¬ (((p.n - 1 : Nat) : Nat) : Int) < (p.n : Int) - 1 := by omega
                    have p0 := hk5.cell (i := 0) rfl
                    have p1 := hk5.cell (i := 1) rfl
                    have p2 := hk5.cell (i := 2) rfl
                    have H5 := Lib.hid hok5
                    have O5 := Lib.hid ho5
                    have B5 := Lib.hid hb5
                    have hol' : out.length ≤ 65536 := by omega
                    clear hk5 hok5 ho5 hb5
                    go_wp2_with (refine app_src rfl (.tmp 88) (.tmp 90) 35 rfl w.heap.size 81 _ 3 24 Tryz.underlying35 infoPiece3 rfl (by omega) _ out.length _ rfl (O5.out.alloc _) _ 1 _ rfl (Src.of_blk (Blk.made _ _ _) rfl) (by simp [Value.oneCell']) (by omega) (by omega) (by have := B5.out.size; simp; omega) ?_; intro v4 w4 ho4 hg4 hor4)
                    have L5 := (Below.refl wr.heap.size wr).alloc (Nat.le_refl _) (.cells #[.int .u8 (p.b : Int), .int .i64 (p.n:Int), .int .i64 (p.d : Int)] 81)
                    have H7 := (H5.out.below L5).pieces hg4 (fun j hj => ⟨row_typ (own_below O5.out L5) j hj, fun b' o' e => by
                      injection e with e
                      injection e with e1 e2
                      have := (hov j hj).1
                      omega⟩)
                    have B7 : Below w.heap.size w w4 := (B5.out.alloc B5.out.size _).grown hg4 (by have := B5.out.size; simp; omega) (fun k hk => (hov k hk).1)
                    have hAT : at' + 1 + ((p.n-1)) = at' + max p.n 1 := by rw [HAT1.out] <;> omega
                    rw [hAT] at H7
                    go_roundg f
                    case measure => omega
                    case rel =>
                      refine ⟨at' + max p.n 1, out ++ [p], by have := HFQ.out; omega, by omega, ?_, H7, ?_, ?_, ?_, B7⟩
                      · rw [HAT1.out]; go_num
                      · rw [List.length_append, List.flatMap_append]
                        simpa [pcell] using ho4
                      · rw [← HP.out]
                        conv => rhs; rw [parseGo, if_pos (show at' < b.length by omega), HQ.out]
                        simp
                      · rw [List.length_append, List.length_singleton]
                        omega
          · have HQ := Lib.hid (show bestP b at' = p by
              rw [← HBest.out]
              cases gk with
              | zero => rfl
              | succ e => rw [bestGo, if_neg hgo])
            by_cases hg1 : 0 ≤ from'
            · have hg2 : ¬ (at' : Int) - from' ≤ 32768 := fun h => hgo ⟨hg1, h⟩
              have HFQ := Lib.hid (show at' + max p.n 1 ≤ b.length by have h1 := HFit.out; rw [HQ.out] at h1; exact h1)
              rcases Nat.eq_zero_or_pos p.n with hn0 | hn1
              · have hat1 : at' + max p.n 1 = at' + 0 + 1 := by rw [hn0]; rfl
                have HAT1 := Lib.hid hat1
                clear hat1
                rw [hn0, show ((0 : Nat) : Int) = 0 from rfl] at p1
                go_wp2
                go_loopg [8, 78] 0 (PlI b (some ⟨bb, off, none⟩) n c w.heap.size wN.heap.size (w.heap.size + 2) (w.heap.size + 3) (w.heap.size + 1) at' wq.heap.size p out u7 w 0)
                case atStart => exact ⟨0, by simp, rfl, rfl, K2.out, H2.out, O2.out, B2.out⟩
                case round =>
                  clear H2 O2 B2 K2 p0 p1 p2 d1 d4
                  obtain ⟨j, rfl, rfl, hj, hk5, hok5, ho5, hb5⟩ := hrel
                  obtain rfl : j = 0 := by omega
                  have p0 := hk5.cell (i := 0) rfl
                  have p1 := hk5.cell (i := 1) rfl
                  have p2 := hk5.cell (i := 2) rfl
                  have H5 := Lib.hid hok5
                  have O5 := Lib.hid ho5
                  have B5 := Lib.hid hb5
                  have hol' : out.length ≤ 65536 := by omega
                  clear hk5 hok5 ho5 hb5
                  go_wp2_with (refine app_src rfl (.tmp 88) (.tmp 90) 35 rfl w.heap.size 81 _ 3 24 Tryz.underlying35 infoPiece3 rfl (by omega) _ out.length _ rfl (O5.out.alloc _) _ 1 _ rfl (Src.of_blk (Blk.made _ _ _) rfl) (by simp [Value.oneCell']) (by omega) (by omega) (by have := B5.out.size; simp; omega) ?_; intro v4 w4 ho4 hg4 hor4)
                  have L5 := (Below.refl wr.heap.size wr).alloc (Nat.le_refl _) (.cells #[.int .u8 (p.b : Int), .int .i64 0, .int .i64 (p.d : Int)] 81)
                  have H7 := (H5.out.below L5).pieces hg4 (fun j hj => ⟨row_typ (own_below O5.out L5) j hj, fun b' o' e => by
                    injection e with e
                    injection e with e1 e2
                    have := (hov j hj).1
                    omega⟩)
                  have B7 : Below w.heap.size w w4 := (B5.out.alloc B5.out.size _).grown hg4 (by have := B5.out.size; simp; omega) (fun k hk => (hov k hk).1)
                  have hAT : at' + 1 + (0) = at' + max p.n 1 := by rw [HAT1.out] <;> omega
                  rw [hAT] at H7
                  go_roundg f
                  case measure => omega
                  case rel =>
                    refine ⟨at' + max p.n 1, out ++ [p], by have := HFQ.out; omega, by omega, ?_, H7, ?_, ?_, ?_, B7⟩
                    · rw [HAT1.out]; go_num
                    · rw [List.length_append, List.flatMap_append]
                      simpa [pcell, hn0] using ho4
                    · rw [← HP.out]
                      conv => rhs; rw [parseGo, if_pos (show at' < b.length by omega), HQ.out]
                      simp
                    · rw [List.length_append, List.length_singleton]
                      omega
              · have hat1 : at' + max p.n 1 = at' + (p.n - 1) + 1 := by rw [Nat.max_eq_left hn1]; omega
                have HAT1 := Lib.hid hat1
                clear hat1
                have hn1I : (1 : Int) ≤ (p.n : Int) := by omega
                have hn1J : ¬ (p.n : Int) < 1 := by omega
                go_wp2
                go_loopg [8, 78] (p.n - 1) (PlI b (some ⟨bb, off, none⟩) n c w.heap.size wN.heap.size (w.heap.size + 2) (w.heap.size + 3) (w.heap.size + 1) at' wq.heap.size p out u7 w (p.n - 1))
                case atStart => exact ⟨0, by simp, rfl, by omega, K2.out, H2.out, O2.out, B2.out⟩
                case round =>
                  clear H2 O2 B2 K2 p0 p1 p2 d1 d4
                  obtain ⟨j, rfl, rfl, hj, hk5, hok5, ho5, hb5⟩ := hrel
                  by_cases hjM : j < p.n - 1
                  · have hjI : (j : Int) < (p.n : Int) - 1 := by omega
                    have H5 := Lib.hid hok5
                    have hlt5 : at' + 1 + j < n := by have := HFQ.out; rw [HAT1.out] at this; omega
                    have K5 := Lib.hid hk5
                    have O5 := Lib.hid ho5
                    have B5 := Lib.hid hb5
                    clear hk5 hok5 ho5 hb5
                    go_wp2_with fail
                    rw [show (at' : Int) + (j : Int) + 1 = ((at' + 1 + j : Nat) : Int) by omega]
                    refine (lzput_any b (some ⟨bb, off, none⟩) n c w.heap.size wN.heap.size (w.heap.size + 2) (w.heap.size + 3) (w.heap.size + 1) (at' + 1 + j) wr H5.out HBy.out hn hc hlt5 hlo2).mono ?_
                    rintro ev w6 ⟨rfl, hok6, hst6⟩
                    have H6 := Lib.hid hok6
                    have K6 := Lib.hid (hst6.blk H5.out K5.out (by decide))
                    have O6 := Lib.hid (hst6.row H5.out O5.out (by decide))
                    have B6 := Lib.hid (B5.out.trans (hst6.below (by omega) (by omega) B5.out.size))
                    clear hok6 hst6
                    go_wp2
                    go_roundg (gk - 1)
                    case measure => omega
                    case rel => exact ⟨j + 1, by go_num, by go_num, by omega, K6.out, H6.out, O6.out, B6.out⟩
                  · obtain rfl : j = p.n - 1 := by omega
                    have hjI : ¬ (((p.n - 1 : Nat) : Nat) : Int) < (p.n : Int) - 1 := by omega
                    have p0 := hk5.cell (i := 0) rfl
                    have p1 := hk5.cell (i := 1) rfl
                    have p2 := hk5.cell (i := 2) rfl
                    have H5 := Lib.hid hok5
                    have O5 := Lib.hid ho5
                    have B5 := Lib.hid hb5
                    have hol' : out.length ≤ 65536 := by omega
                    clear hk5 hok5 ho5 hb5
                    go_wp2_with (refine app_src rfl (.tmp 88) (.tmp 90) 35 rfl w.heap.size 81 _ 3 24 Tryz.underlying35 infoPiece3 rfl (by omega) _ out.length _ rfl (O5.out.alloc _) _ 1 _ rfl (Src.of_blk (Blk.made _ _ _) rfl) (by simp [Value.oneCell']) (by omega) (by omega) (by have := B5.out.size; simp; omega) ?_; intro v4 w4 ho4 hg4 hor4)
                    have L5 := (Below.refl wr.heap.size wr).alloc (Nat.le_refl _) (.cells #[.int .u8 (p.b : Int), .int .i64 (p.n:Int), .int .i64 (p.d : Int)] 81)
                    have H7 := (H5.out.below L5).pieces hg4 (fun j hj => ⟨row_typ (own_below O5.out L5) j hj, fun b' o' e => by
                      injection e with e
                      injection e with e1 e2
                      have := (hov j hj).1
                      omega⟩)
                    have B7 : Below w.heap.size w w4 := (B5.out.alloc B5.out.size _).grown hg4 (by have := B5.out.size; simp; omega) (fun k hk => (hov k hk).1)
                    have hAT : at' + 1 + ((p.n-1)) = at' + max p.n 1 := by rw [HAT1.out] <;> omega
                    rw [hAT] at H7
                    go_roundg f
                    case measure => omega
                    case rel =>
                      refine ⟨at' + max p.n 1, out ++ [p], by have := HFQ.out; omega, by omega, ?_, H7, ?_, ?_, ?_, B7⟩
                      · rw [HAT1.out]; go_num
                      · rw [List.length_append, List.flatMap_append]
                        simpa [pcell] using ho4
                      · rw [← HP.out]
                        conv => rhs; rw [parseGo, if_pos (show at' < b.length by omega), HQ.out]
                        simp
                      · rw [List.length_append, List.length_singleton]
                        omega
            ·
              have HFQ := Lib.hid (show at' + max p.n 1 ≤ b.length by have h1 := HFit.out; rw [HQ.out] at h1; exact h1)
              rcases Nat.eq_zero_or_pos p.n with hn0 | hn1
              · have hat1 : at' + max p.n 1 = at' + 0 + 1 := by rw [hn0]; rfl
                have HAT1 := Lib.hid hat1
                clear hat1
                rw [hn0, show ((0 : Nat) : Int) = 0 from rfl] at p1
                go_wp2
                go_loopg [8, 78] 0 (PlI b (some ⟨bb, off, none⟩) n c w.heap.size wN.heap.size (w.heap.size + 2) (w.heap.size + 3) (w.heap.size + 1) at' wq.heap.size p out u7 w 0)
                case atStart => exact ⟨0, by simp, rfl, rfl, K2.out, H2.out, O2.out, B2.out⟩
                case round =>
                  clear H2 O2 B2 K2 p0 p1 p2 d1 d4
                  obtain ⟨j, rfl, rfl, hj, hk5, hok5, ho5, hb5⟩ := hrel
                  obtain rfl : j = 0 := by omega
                  have p0 := hk5.cell (i := 0) rfl
                  have p1 := hk5.cell (i := 1) rfl
                  have p2 := hk5.cell (i := 2) rfl
                  have H5 := Lib.hid hok5
                  have O5 := Lib.hid ho5
                  have B5 := Lib.hid hb5
                  have hol' : out.length ≤ 65536 := by omega
                  clear hk5 hok5 ho5 hb5
                  go_wp2_with (refine app_src rfl (.tmp 88) (.tmp 90) 35 rfl w.heap.size 81 _ 3 24 Tryz.underlying35 infoPiece3 rfl (by omega) _ out.length _ rfl (O5.out.alloc _) _ 1 _ rfl (Src.of_blk (Blk.made _ _ _) rfl) (by simp [Value.oneCell']) (by omega) (by omega) (by have := B5.out.size; simp; omega) ?_; intro v4 w4 ho4 hg4 hor4)
                  have L5 := (Below.refl wr.heap.size wr).alloc (Nat.le_refl _) (.cells #[.int .u8 (p.b : Int), .int .i64 0, .int .i64 (p.d : Int)] 81)
                  have H7 := (H5.out.below L5).pieces hg4 (fun j hj => ⟨row_typ (own_below O5.out L5) j hj, fun b' o' e => by
                    injection e with e
                    injection e with e1 e2
                    have := (hov j hj).1
                    omega⟩)
                  have B7 : Below w.heap.size w w4 := (B5.out.alloc B5.out.size _).grown hg4 (by have := B5.out.size; simp; omega) (fun k hk => (hov k hk).1)
                  have hAT : at' + 1 + (0) = at' + max p.n 1 := by rw [HAT1.out] <;> omega
                  rw [hAT] at H7
                  go_roundg f
                  case measure => omega
                  case rel =>
                    refine ⟨at' + max p.n 1, out ++ [p], by have := HFQ.out; omega, by omega, ?_, H7, ?_, ?_, ?_, B7⟩
                    · rw [HAT1.out]; go_num
                    · rw [List.length_append, List.flatMap_append]
                      simpa [pcell, hn0] using ho4
                    · rw [← HP.out]
                      conv => rhs; rw [parseGo, if_pos (show at' < b.length by omega), HQ.out]
                      simp
                    · rw [List.length_append, List.length_singleton]
                      omega
              · have hat1 : at' + max p.n 1 = at' + (p.n - 1) + 1 := by rw [Nat.max_eq_left hn1]; omega
                have HAT1 := Lib.hid hat1
                clear hat1
                have hn1I : (1 : Int) ≤ (p.n : Int) := by omega
                have hn1J : ¬ (p.n : Int) < 1 := by omega
                go_wp2
                go_loopg [8, 78] (p.n - 1) (PlI b (some ⟨bb, off, none⟩) n c w.heap.size wN.heap.size (w.heap.size + 2) (w.heap.size + 3) (w.heap.size + 1) at' wq.heap.size p out u7 w (p.n - 1))
                case atStart => exact ⟨0, by simp, rfl, by omega, K2.out, H2.out, O2.out, B2.out⟩
                case round =>
                  clear H2 O2 B2 K2 p0 p1 p2 d1 d4
                  obtain ⟨j, rfl, rfl, hj, hk5, hok5, ho5, hb5⟩ := hrel
                  by_cases hjM : j < p.n - 1
                  · have hjI : (j : Int) < (p.n : Int) - 1 := by omega
                    have H5 := Lib.hid hok5
                    have hlt5 : at' + 1 + j < n := by have := HFQ.out; rw [HAT1.out] at this; omega
                    have K5 := Lib.hid hk5
                    have O5 := Lib.hid ho5
                    have B5 := Lib.hid hb5
                    clear hk5 hok5 ho5 hb5
                    go_wp2_with fail
                    rw [show (at' : Int) + (j : Int) + 1 = ((at' + 1 + j : Nat) : Int) by omega]
                    refine (lzput_any b (some ⟨bb, off, none⟩) n c w.heap.size wN.heap.size (w.heap.size + 2) (w.heap.size + 3) (w.heap.size + 1) (at' + 1 + j) wr H5.out HBy.out hn hc hlt5 hlo2).mono ?_
                    rintro ev w6 ⟨rfl, hok6, hst6⟩
                    have H6 := Lib.hid hok6
                    have K6 := Lib.hid (hst6.blk H5.out K5.out (by decide))
                    have O6 := Lib.hid (hst6.row H5.out O5.out (by decide))
                    have B6 := Lib.hid (B5.out.trans (hst6.below (by omega) (by omega) B5.out.size))
                    clear hok6 hst6
                    go_wp2
                    go_roundg (gk - 1)
                    case measure => omega
                    case rel => exact ⟨j + 1, by go_num, by go_num, by omega, K6.out, H6.out, O6.out, B6.out⟩
                  · obtain rfl : j = p.n - 1 := by omega
                    have hjI : ¬ (((p.n - 1 : Nat) : Nat) : Int) < (p.n : Int) - 1 := by omega
                    have p0 := hk5.cell (i := 0) rfl
                    have p1 := hk5.cell (i := 1) rfl
                    have p2 := hk5.cell (i := 2) rfl
                    have H5 := Lib.hid hok5
                    have O5 := Lib.hid ho5
                    have B5 := Lib.hid hb5
                    have hol' : out.length ≤ 65536 := by omega
                    clear hk5 hok5 ho5 hb5
                    go_wp2_with (refine app_src rfl (.tmp 88) (.tmp 90) 35 rfl w.heap.size 81 _ 3 24 Tryz.underlying35 infoPiece3 rfl (by omega) _ out.length _ rfl (O5.out.alloc _) _ 1 _ rfl (Src.of_blk (Blk.made _ _ _) rfl) (by simp [Value.oneCell']) (by omega) (by omega) (by have := B5.out.size; simp; omega) ?_; intro v4 w4 ho4 hg4 hor4)
                    have L5 := (Below.refl wr.heap.size wr).alloc (Nat.le_refl _) (.cells #[.int .u8 (p.b : Int), .int .i64 (p.n:Int), .int .i64 (p.d : Int)] 81)
                    have H7 := (H5.out.below L5).pieces hg4 (fun j hj => ⟨row_typ (own_below O5.out L5) j hj, fun b' o' e => by
                      injection e with e
                      injection e with e1 e2
                      have := (hov j hj).1
                      omega⟩)
                    have B7 : Below w.heap.size w w4 := (B5.out.alloc B5.out.size _).grown hg4 (by have := B5.out.size; simp; omega) (fun k hk => (hov k hk).1)
                    have hAT : at' + 1 + ((p.n-1)) = at' + max p.n 1 := by rw [HAT1.out] <;> omega
                    rw [hAT] at H7
                    go_roundg f
                    case measure => omega
                    case rel =>
                      refine ⟨at' + max p.n 1, out ++ [p], by have := HFQ.out; omega, by omega, ?_, H7, ?_, ?_, ?_, B7⟩
                      · rw [HAT1.out]; go_num
                      · rw [List.length_append, List.flatMap_append]
                        simpa [pcell] using ho4
                      · rw [← HP.out]
                        conv => rhs; rw [parseGo, if_pos (show at' < b.length by omega), HQ.out]
                        simp
                      · rw [List.length_append, List.length_singleton]
                        omega
      · have h3I : ¬ (at' : Int) + 3 ≤ (n : Int) := by omega
        obtain ⟨p, hp⟩ : ∃ p : Pc, p = ⟨z, 0, 0⟩ := ⟨_, rfl⟩
        have HQ := Lib.hid (show bestP b at' = p by rw [hp]; unfold bestP; rw [if_neg (by omega), HZ.out]; rfl)
        have K2 := Lib.hid (show Blk w1 wq.heap.size 81 #[.int .u8 (p.b : Int), .int .i64 (p.n : Int), .int .i64 (p.d : Int)] by rw [hp]; exact K1.out)
        have hp258 : p.n ≤ 258 := by rw [hp]; simp
        clear hp K1
        have H2 := H1
        have O2 := O1
        have B2 := B1
        clear H1 O1 B1
        have p0 := K2.out.cell (i := 0) rfl
        have p1 := K2.out.cell (i := 1) rfl
        have p2 := K2.out.cell (i := 2) rfl
        have HFQ := Lib.hid (show at' + max p.n 1 ≤ b.length by have h1 := HFit.out; rw [HQ.out] at h1; exact h1)
        rcases Nat.eq_zero_or_pos p.n with hn0 | hn1
        · have hat1 : at' + max p.n 1 = at' + 0 + 1 := by rw [hn0]; rfl
          have HAT1 := Lib.hid hat1
          clear hat1
          rw [hn0, show ((0 : Nat) : Int) = 0 from rfl] at p1
          go_wp2
          go_loopg [8, 78] 0 (PlI b (some ⟨bb, off, none⟩) n c w.heap.size wN.heap.size (w.heap.size + 2) (w.heap.size + 3) (w.heap.size + 1) at' wq.heap.size p out u7 w 0)
          case atStart => exact ⟨0, by simp, rfl, rfl, K2.out, H2.out, O2.out, B2.out⟩
          case round =>
            clear H2 O2 B2 K2 p0 p1 p2 d1 d4
            obtain ⟨j, rfl, rfl, hj, hk5, hok5, ho5, hb5⟩ := hrel
            obtain rfl : j = 0 := by omega
            have p0 := hk5.cell (i := 0) rfl
            have p1 := hk5.cell (i := 1) rfl
            have p2 := hk5.cell (i := 2) rfl
            have H5 := Lib.hid hok5
            have O5 := Lib.hid ho5
            have B5 := Lib.hid hb5
            have hol' : out.length ≤ 65536 := by omega
            clear hk5 hok5 ho5 hb5
            go_wp2_with (refine app_src rfl (.tmp 88) (.tmp 90) 35 rfl w.heap.size 81 _ 3 24 Tryz.underlying35 infoPiece3 rfl (by omega) _ out.length _ rfl (O5.out.alloc _) _ 1 _ rfl (Src.of_blk (Blk.made _ _ _) rfl) (by simp [Value.oneCell']) (by omega) (by omega) (by have := B5.out.size; simp; omega) ?_; intro v4 w4 ho4 hg4 hor4)
            have L5 := (Below.refl wr.heap.size wr).alloc (Nat.le_refl _) (.cells #[.int .u8 (p.b : Int), .int .i64 0, .int .i64 (p.d : Int)] 81)
            have H7 := (H5.out.below L5).pieces hg4 (fun j hj => ⟨row_typ (own_below O5.out L5) j hj, fun b' o' e => by
              injection e with e
              injection e with e1 e2
              have := (hov j hj).1
              omega⟩)
            have B7 : Below w.heap.size w w4 := (B5.out.alloc B5.out.size _).grown hg4 (by have := B5.out.size; simp; omega) (fun k hk => (hov k hk).1)
            have hAT : at' + 1 + (0) = at' + max p.n 1 := by rw [HAT1.out] <;> omega
            rw [hAT] at H7
            go_roundg f
            case measure => omega
            case rel =>
              refine ⟨at' + max p.n 1, out ++ [p], by have := HFQ.out; omega, by omega, ?_, H7, ?_, ?_, ?_, B7⟩
              · rw [HAT1.out]; go_num
              · rw [List.length_append, List.flatMap_append]
                simpa [pcell, hn0] using ho4
              · rw [← HP.out]
                conv => rhs; rw [parseGo, if_pos (show at' < b.length by omega), HQ.out]
                simp
              · rw [List.length_append, List.length_singleton]
                omega
        · have hat1 : at' + max p.n 1 = at' + (p.n - 1) + 1 := by rw [Nat.max_eq_left hn1]; omega
          have HAT1 := Lib.hid hat1
          clear hat1
          have hn1I : (1 : Int) ≤ (p.n : Int) := by omega
          have hn1J : ¬ (p.n : Int) < 1 := by omega
          go_wp2
          go_loopg [8, 78] (p.n - 1) (PlI b (some ⟨bb, off, none⟩) n c w.heap.size wN.heap.size (w.heap.size + 2) (w.heap.size + 3) (w.heap.size + 1) at' wq.heap.size p out u7 w (p.n - 1))
          case atStart => exact ⟨0, by simp, rfl, by omega, K2.out, H2.out, O2.out, B2.out⟩
          case round =>
            clear H2 O2 B2 K2 p0 p1 p2 d1 d4
            obtain ⟨j, rfl, rfl, hj, hk5, hok5, ho5, hb5⟩ := hrel
            by_cases hjM : j < p.n - 1
            · have hjI : (j : Int) < (p.n : Int) - 1 := by omega
              have H5 := Lib.hid hok5
              have hlt5 : at' + 1 + j < n := by have := HFQ.out; rw [HAT1.out] at this; omega
              have K5 := Lib.hid hk5
              have O5 := Lib.hid ho5
              have B5 := Lib.hid hb5
              clear hk5 hok5 ho5 hb5
              go_wp2_with fail
              rw [show (at' : Int) + (j : Int) + 1 = ((at' + 1 + j : Nat) : Int) by omega]
              refine (lzput_any b (some ⟨bb, off, none⟩) n c w.heap.size wN.heap.size (w.heap.size + 2) (w.heap.size + 3) (w.heap.size + 1) (at' + 1 + j) wr H5.out HBy.out hn hc hlt5 hlo2).mono ?_
              rintro ev w6 ⟨rfl, hok6, hst6⟩
              have H6 := Lib.hid hok6
              have K6 := Lib.hid (hst6.blk H5.out K5.out (by decide))
              have O6 := Lib.hid (hst6.row H5.out O5.out (by decide))
              have B6 := Lib.hid (B5.out.trans (hst6.below (by omega) (by omega) B5.out.size))
              clear hok6 hst6
              go_wp2
              go_roundg (gk - 1)
              case measure => omega
              case rel => exact ⟨j + 1, by go_num, by go_num, by omega, K6.out, H6.out, O6.out, B6.out⟩
            · obtain rfl : j = p.n - 1 := by omega
              have hjI : ¬ (((p.n - 1 : Nat) : Nat) : Int) < (p.n : Int) - 1 := by omega
              have p0 := hk5.cell (i := 0) rfl
              have p1 := hk5.cell (i := 1) rfl
              have p2 := hk5.cell (i := 2) rfl
              have H5 := Lib.hid hok5
              have O5 := Lib.hid ho5
              have B5 := Lib.hid hb5
              have hol' : out.length ≤ 65536 := by omega
              clear hk5 hok5 ho5 hb5
              go_wp2_with (refine app_src rfl (.tmp 88) (.tmp 90) 35 rfl w.heap.size 81 _ 3 24 Tryz.underlying35 infoPiece3 rfl (by omega) _ out.length _ rfl (O5.out.alloc _) _ 1 _ rfl (Src.of_blk (Blk.made _ _ _) rfl) (by simp [Value.oneCell']) (by omega) (by omega) (by have := B5.out.size; simp; omega) ?_; intro v4 w4 ho4 hg4 hor4)
              have L5 := (Below.refl wr.heap.size wr).alloc (Nat.le_refl _) (.cells #[.int .u8 (p.b : Int), .int .i64 (p.n:Int), .int .i64 (p.d : Int)] 81)
              have H7 := (H5.out.below L5).pieces hg4 (fun j hj => ⟨row_typ (own_below O5.out L5) j hj, fun b' o' e => by
                injection e with e
                injection e with e1 e2
                have := (hov j hj).1
                omega⟩)
              have B7 : Below w.heap.size w w4 := (B5.out.alloc B5.out.size _).grown hg4 (by have := B5.out.size; simp; omega) (fun k hk => (hov k hk).1)
              have hAT : at' + 1 + ((p.n-1)) = at' + max p.n 1 := by rw [HAT1.out] <;> omega
              rw [hAT] at H7
              go_roundg f
              case measure => omega
              case rel =>
                refine ⟨at' + max p.n 1, out ++ [p], by have := HFQ.out; omega, by omega, ?_, H7, ?_, ?_, ?_, B7⟩
                · rw [HAT1.out]; go_num
                · rw [List.length_append, List.flatMap_append]
                  simpa [pcell] using ho4
                · rw [← HP.out]
                  conv => rhs; rw [parseGo, if_pos (show at' < b.length by omega), HQ.out]
                  simp
                · rw [List.length_append, List.length_singleton]
                  omega
    · go_wp2
      obtain ⟨A', c', rfl, hcc⟩ := own_slice HO.out
      go_ret
      have e : out = parseP b := by
        rw [← HP.out]
        cases gk with
        | zero => simp [parseGo]
        | succ f => rw [parseGo, if_neg (by omega)]; simp
      refine ⟨A', c', ?_, ?_, HB.out⟩
      · rw [← e]; rfl
      · rw [← e]; exact HO.out
end Go.Proofs.YthmcdohndckniaaGreatDoor
