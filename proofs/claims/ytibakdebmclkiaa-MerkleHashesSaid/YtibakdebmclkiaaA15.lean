/- The contracts of Blocks, of the program and of the reference: both return the hashes of the parts. -/
import Derived.Test.YtibakdebmclkiaaA14
namespace Go.Proofs.Ytibakdebmclkiaa
open Go.RowKit
set_option linter.unusedVariables false
set_option linter.unusedSimpArgs false

def blocksOf (b : List Int) (n : Nat) : List Int :=
  if h : n = 0 then [] else if h2 : b.length = 0 then [] else leafOf (b.take n) :: blocksOf (b.drop n) n
termination_by b.length
decreasing_by rw [List.length_drop]; omega

theorem blocksOf_cons {b : List Int} {n : Nat} (h : n ≠ 0) (h2 : b.length ≠ 0) : blocksOf b n = leafOf (b.take n) :: blocksOf (b.drop n) n := by
  conv => lhs; rw [blocksOf]
  rw [dif_neg h, dif_neg h2]
theorem blocksOf_nil {b : List Int} {n : Nat} (h2 : b.length = 0) : blocksOf b n = [] := by
  rw [blocksOf]
  by_cases h : n = 0
  · rw [dif_pos h]
  · rw [dif_neg h, dif_pos h2]
theorem blocksOf_last {b : List Int} {n : Nat} (h : n ≠ 0) (h2 : b.length ≠ 0) (h3 : b.length ≤ n) : blocksOf b n = [leafOf b] := by
  rw [blocksOf_cons h h2, List.take_of_length_le h3, blocksOf_nil (by rw [List.length_drop]; omega)]
theorem blocksOf_length (d : Nat) : ∀ (b : List Int) (n : Nat), b.length ≤ d → (blocksOf b n).length ≤ b.length := by
  induction d with
  | zero => intro b n h; rw [blocksOf_nil (by omega)]; simp
  | succ d ih =>
    intro b n h
    by_cases h0 : n = 0
    · rw [blocksOf, dif_pos h0]; simp
    · by_cases h2 : b.length = 0
      · rw [blocksOf_nil h2]; simp
      · rw [blocksOf_cons h0 h2, List.length_cons]
        have := ih (b.drop n) n (by rw [List.length_drop]; omega)
        rw [List.length_drop] at this
        omega

theorem AllB.take {xs : List Int} (h : AllB xs) (n : Nat) : AllB (xs.take n) := fun x hx => h x (List.mem_of_mem_take hx)
theorem AllB.drop {xs : List Int} (h : AllB xs) (n : Nat) : AllB (xs.drop n) := fun x hx => h x (List.mem_of_mem_drop hx)

theorem cutsB (A : Option Addr) (c : Nat) (xs : List Int) (m : Nat) (hm : m ≤ xs.length) (hc : xs.length ≤ c) : ∃ A', Cuts 35 .u8 A c xs m A' ∧ ∀ p, A' = some p → ∃ q, A = some q ∧ p.block = q.block := by
  obtain ⟨i0, hi, hz0, hz1, hz2⟩ := info_parts info5
  refine ⟨if c = m then A else A.map (·.add (m * 1)), ⟨fun W => ?_, fun W => ?_, fun w h => h.take m, fun w h => h.drop m c hc, by rw [List.length_take]; omega, by rw [List.length_drop]; omega, fun h h' => ?_⟩, fun p hp => ?_⟩
  · rw [take_run 35 5 Try.underlying35 hi .i64 A xs.length c m (by omega) W, List.length_take, Nat.min_eq_left hm]
  · rw [drop_run 35 5 Try.underlying35 hi .i64 A xs.length c m hm W, List.length_drop, hz1]
  · by_cases e : c = m
    · omega
    · rw [if_neg e] at h'
      cases A with
      | none => have := h rfl; omega
      | some x => simp at h'
  · by_cases e : c = m
    · rw [if_pos e] at hp; exact ⟨p, hp, rfl⟩
    · rw [if_neg e] at hp
      cases A with
      | none => simp at hp
      | some x =>
        simp at hp
        refine ⟨x, rfl, ?_⟩
        rw [← hp]; unfold Addr.add; split <;> rfl

def BInv (w : World) (xs : List Int) (n : Nat) (b out : Value) (wr : World) : Prop :=
  ∃ (a : Option Addr) (c : Nat) (rest ys : List Int), b = .slice a rest.length c ∧ Ints .u8 wr a rest ∧ rest.length ≤ c ∧ AllB rest ∧ rest.length ≤ xs.length ∧ wr.ownsRow w.heap.size 24 1 out ys.length (ys.map (Value.int .u64)) ∧ ys ++ blocksOf rest n = blocksOf xs n ∧ Below w.heap.size w wr ∧ ∀ p, a = some p → rest ≠ [] → p.block < w.heap.size

theorem ints_far {k : IntKind} {w wr w1 : World} {a : Option Addr} {xs : List Int} (h : Ints k wr a xs) (hp : ∀ p, a = some p → xs ≠ [] → p.block < w.heap.size) (h0 : Below w.heap.size w wr) (h1 : Below w.heap.size w w1) : Ints k w1 a xs := by
  rcases h with rfl | ⟨x, rfl, h⟩
  · exact .inl rfl
  · refine .inr ⟨x, rfl, fun i hi => ?_⟩
    have hb : (x.add i).block < w.heap.size := by
      have := hp x rfl (by rintro rfl; simp at hi)
      unfold Addr.add; split <;> exact this
    rw [h1.cell hb, ← h0.cell hb]; exact h i hi

set_option maxHeartbeats 2000000 in
theorem blocks_any (size : Int) (a : Option Addr) (c : Nat) (xs : List Int) (w : World) (hs : 1 ≤ size) (hs2 : size ≤ 9223372036854775807) (hx : Ints .u8 w a xs) (hb : AllB xs) (hc : xs.length ≤ c) (hl : xs.length ≤ 1000000) :
    Calls Try.prog 24 #[.slice a xs.length c, .int .i64 size] w fun e w' => ∃ v, e = .returned v ∧ w'.ownsRow w.heap.size 24 1 v (blocksOf xs size.toNat).length ((blocksOf xs size.toNat).map (Value.int .u64)) ∧ Below w.heap.size w w' := by
  obtain ⟨i0, hi0, hz0, hz1, hz2⟩ := info_parts info24
  have hp : ∀ p, a = some p → xs ≠ [] → p.block < w.heap.size := by
    rintro p rfl h
    obtain ⟨x, hx1, hx2⟩ := hx.at (i := 0) (List.length_pos_iff.2 h)
    cases hx1
    exact World.block_lt_of_cell? _ _ hx2
  have d0 : decide (size < 1) = false := decide_eq_false (by omega)
  obtain ⟨n, rfl⟩ := Int.eq_ofNat_of_zero_le (show 0 ≤ size by omega)
  rw [Int.toNat_natCast]
  have hbl := blocksOf_length _ xs n (Nat.le_refl _)
  go_enter Try.func24, Try.ntmps24
  go_wp2
  go_loopw [0, 5] (fun b out wr => BInv w xs n b out wr) (fun b _ _ => match b with | .slice _ l _ => l | _ => 0)
  case atStart => exact ⟨a, c, xs, [], rfl, hx, hc, hb, Nat.le_refl _, World.ownsRow_nil _ _ _ _, rfl, Below.refl _ _, hp⟩
  case round =>
    obtain ⟨a1, c1, rest, ys, rfl, hi1, hc1, hb1, hle, ho1, heq, hw1, hp1⟩ := hrel
    clear hx hb hc hp
    have hyl : ys.length ≤ 1000000 := by
      have : (ys ++ blocksOf rest n).length ≤ 1000000 := by rw [heq]; omega
      rw [List.length_append] at this; omega
    by_cases hlt : n < rest.length
    · have d1 : decide ((rest.length : Int) > (n : Int)) = true := decide_eq_true (by omega)
      obtain ⟨a2, hcut, hcuta⟩ := cutsB a1 c1 rest n (by omega) hc1
      have hcutp : ∀ p, a2 = some p → rest.drop n ≠ [] → p.block < w.heap.size := fun p hp hne => by
        obtain ⟨q, hq, e⟩ := hcuta p hp
        rw [e]; exact hp1 q hq (by rintro rfl; simp at hne)
      have hcl := hcut.lo
      have hch := hcut.hi
      have hne : n ≠ 0 := by omega
      have hbk := blocksOf_cons (b := rest) hne (by omega)
      have L := leaf_any a1 c1 (rest.take n) wr (hcut.loI _ hi1) (hb1.take n) (by rw [List.length_take]; omega)
      have LL := Lib.hid L
      have l2 := List.length_drop (l := rest) (i := n)
      have hI := hcut.hiI _ hi1
      have hL := hcut.hiL
      have hB := hb1.drop n
      have hp2 : ∀ p, a2 = some p → rest.drop n ≠ [] → p.block < w.heap.size := hcutp
      clear L hcut
      generalize rest.take n = lo at *
      generalize rest.drop n = hi at *
      generalize leafOf lo = lf at *
      have HK := Lib.hid hbk
      have HE := Lib.hid heq
      have HI := Lib.hid hI
      have HL2 := Lib.hid l2
      clear hbk heq hi1 hI hp1 hne l2
      go_wp2_with fail
      refine LL.out.mono ?_
      rintro e w1 ⟨rfl, rfl⟩
      go_wp2_with (at_builtin; refine wpList_append_own _ rfl _ _ 22 rfl w.heap.size 24 i0 (.int .u64 0) 1 8 Try.underlying22 hi0 hz0 hz1 hz2 rfl (by decide) _ ys.length (ys.map (Value.int .u64)) rfl (ho1.alloc _) ⟨wr.heap.size, 0, none⟩ 1 1 [.int .u64 lf] rfl rfl (cell_one_new _ _ _) (by simp [Value.oneCell']) (by unfold maxLen; omega) (by omega) (by have := hw1.size; simp; omega) ?_)
      intro v3 w3 hown3 hgrow3 _
      have hb3 := below_app (below_alloc hw1 _) hgrow3 (ho1.alloc _)
      have HO := Lib.hid (own_snoc (m := (ys ++ [lf]).length) hown3 (by simp))
      clear hown3 hgrow3 ho1
      go_wp2
      go_roundw
      case rel => exact ⟨a2, _, hi, ys ++ [lf], rfl, ints_far HI.out hp2 hw1 hb3, hL, hB, by have := HL2.out; omega, HO.out, by rw [← HE.out, HK.out]; simp, hb3, hp2⟩
      case measure => have := HL2.out; simp; omega
    · have d1 : decide ((rest.length : Int) > (n : Int)) = false := decide_eq_false (by omega)
      by_cases h0 : rest.length = 0
      · have d2 : decide ((rest.length : Int) > 0) = false := decide_eq_false (by omega)
        have hbk := blocksOf_nil (n := n) h0
        rw [hbk, List.append_nil] at heq
        have HE := Lib.hid heq
        clear heq hbk
        go_wp2
        go_ret
        exact ⟨_, rfl, by rw [← HE.out]; exact ho1, hw1⟩
      · have d2 : decide ((rest.length : Int) > 0) = true := decide_eq_true (by omega)
        have hbk := blocksOf_last (b := rest) (n := n) (by omega) h0 (by omega)
        rw [hbk] at heq
        have LL := Lib.hid (leaf_any a1 c1 rest wr hi1 hb1 (by omega))
        generalize leafOf rest = lf at *
        have HE := Lib.hid heq
        clear heq hbk
        go_wp2_with fail
        refine LL.out.mono ?_
        rintro e w1 ⟨rfl, rfl⟩
        go_wp2_with (at_builtin; refine wpList_append_own _ rfl _ _ 22 rfl w.heap.size 24 i0 (.int .u64 0) 1 8 Try.underlying22 hi0 hz0 hz1 hz2 rfl (by decide) _ ys.length (ys.map (Value.int .u64)) rfl (ho1.alloc _) ⟨wr.heap.size, 0, none⟩ 1 1 [.int .u64 lf] rfl rfl (cell_one_new _ _ _) (by simp [Value.oneCell']) (by unfold maxLen; omega) (by omega) (by have := hw1.size; simp; omega) ?_)
        intro v3 w3 hown3 hgrow3 _
        have hb3 := below_app (below_alloc hw1 _) hgrow3 (ho1.alloc _)
        have HO := Lib.hid (own_snoc (m := (ys ++ [lf]).length) hown3 (by simp))
        clear hown3 hgrow3 ho1
        go_wp2
        go_ret
        exact ⟨_, rfl, by rw [← HE.out]; exact HO.out, hb3⟩

theorem mid_run {P : Program} (t e : TypeId) {i : TypeInfo} (ht : P.underlying t = some (.slice e)) (hi : P.info? e = some i) (kl kh : IntKind) (A : Option Addr) (n c l h : Nat) (h1 : l ≤ h) (h2 : h ≤ c) (W : World) :
    (Instr.slice t (.slice A n c) (some (.int kl l)) (some (.int kh h)) none).run P W = .ok (.slice (if c = l then A else A.map (·.add (l * i.size))) (h - l) (c - l)) W := by
  have hel : P.elem t = e := by simp [Program.elem, ht]
  have hu : P.underlying t = some (.slice (P.elem t)) := by rw [hel]; exact ht
  rw [run_slice_lh W t A n c hu kl kh l h (by omega) (by omega) (by omega), hel]
  simp [sizeOf, typeInfo, hi, sliced, Result.andThen]

theorem min_cast (a b : Nat) : min (a : Int) (b : Int) = ((min a b : Nat) : Int) := by omega

set_option maxHeartbeats 2000000 in
theorem rblocks_any (size : Int) (a : Option Addr) (c : Nat) (xs : List Int) (w : World) (hs : 1 ≤ size) (hs2 : size ≤ 9223372036854775807) (hx : Ints .u8 w a xs) (hb : AllB xs) (hc : xs.length ≤ c) (hl : xs.length ≤ 1000000) (hnil : a = none → c = 0) :
    Calls Try.prog 25 #[.slice a xs.length c, .int .i64 size] w fun e w' => ∃ v, e = .returned v ∧ w'.ownsRow w.heap.size 24 1 v (blocksOf xs size.toNat).length ((blocksOf xs size.toNat).map (Value.int .u64)) ∧ Below w.heap.size w w' := by
  obtain ⟨i0, hi0, hz0, hz1, hz2⟩ := info_parts info24
  obtain ⟨i5, hi5, hy0, hy1, hy2⟩ := info_parts info5
  have d0 : decide (size < 1) = false := decide_eq_false (by omega)
  obtain ⟨n, rfl⟩ := Int.eq_ofNat_of_zero_le (show 0 ≤ size by omega)
  rw [Int.toNat_natCast]
  have hbl := blocksOf_length _ xs n (Nat.le_refl _)
  go_enter Try.func25, Try.ntmps25
  go_wp2
  go_loopw [5, 6] (fun out i wr => ∃ (k : Nat) (ys : List Int), k ≤ xs.length ∧ i = .int .i64 k ∧ wr.ownsRow w.heap.size 24 1 out ys.length (ys.map (Value.int .u64)) ∧ ys ++ blocksOf (xs.drop k) n = blocksOf xs n ∧ Below w.heap.size w wr) (fun _ i _ => xs.length - (intOf i).toNat)
  case atStart => exact ⟨0, [], Nat.zero_le _, rfl, World.ownsRow_nil _ _ _ _, rfl, Below.refl _ _⟩
  case round =>
    obtain ⟨k, ys, hk, rfl, ho1, heq, hw1⟩ := hrel
    have hyl : ys.length ≤ 1000000 := by
      have : (ys ++ blocksOf (xs.drop k) n).length ≤ 1000000 := by rw [heq]; omega
      rw [List.length_append] at this; omega
    have l2 := List.length_drop (l := xs) (i := k)
    by_cases hlt : k < xs.length
    · have d1 : decide ((k : Int) < (xs.length : Int)) = true := decide_eq_true (by omega)
      have d1' : decide (k < xs.length) = true := decide_eq_true hlt
      have hbk := blocksOf_cons (b := xs.drop k) (n := n) (by omega) (by omega)
      have lt1 : ((xs.drop k).take n).length = min n (xs.length - k) := by rw [List.length_take, l2]
      have hI := ((hx.below hw1).drop k c hc).take n
      have hB := (hb.drop k).take n
      have hcut := fun W => mid_run (P := Try.prog) 35 5 Try.underlying35 hi5 .i64 .i64 a xs.length c k (k + min n (xs.length - k)) (by omega) (by omega) W
      rw [hy1] at hcut
      have hnil2 : (if c = k then a else a.map (·.add (k * 1))) = none → c - k = 0 := by
        intro h'
        rw [if_neg (by omega)] at h'
        cases a with
        | none => have := hnil rfl; omega
        | some x => simp at h'
      have LL := Lib.hid (rleaf_any _ (c - k) ((xs.drop k).take n) wr hI hnil2 hB (by rw [lt1]; omega))
      rw [List.drop_drop] at hbk
      rw [lt1] at LL
      have hd2 : xs.drop (k + n) = xs.drop (k + min n (xs.length - k)) := by
        by_cases hm : n ≤ xs.length - k
        · rw [Nat.min_eq_left hm]
        · rw [List.drop_eq_nil_of_le (by omega), List.drop_eq_nil_of_le (by omega)]
      rw [hd2] at hbk
      have hjk : k + min n (xs.length - k) - k = min n (xs.length - k) := by omega
      rw [hjk] at hcut
      generalize hj : min n (xs.length - k) = j at *
      generalize leafOf ((xs.drop k).take n) = lf at *
      generalize (if c = k then a else a.map (·.add (k * 1))) = a2 at *
      have m1 : min (n : Int) ((xs.length : Int) - (k : Int)) = (j : Int) := by omega
      have hjp : 1 ≤ j ∧ k + j ≤ xs.length := by omega
      have HK := Lib.hid hbk
      have HE := Lib.hid heq
      have HJ := Lib.hid hj
      rw [show ((k + j : Nat) : Int) = (k : Int) + (j : Int) from by omega] at hcut
      clear hbk heq hI lt1 l2 hd2 hjk hj hx hb
      go_wp2_with fail
      refine LL.out.mono ?_
      rintro e w1 ⟨rfl, hb1⟩
      have ho2 := ownsRow_below ho1 hb1
      have hw2 := Below.next hw1 hb1
      go_wp2_with (at_builtin; refine wpList_append_own _ rfl _ _ 22 rfl w.heap.size 24 i0 (.int .u64 0) 1 8 Try.underlying22 hi0 hz0 hz1 hz2 rfl (by decide) _ ys.length (ys.map (Value.int .u64)) rfl (ho2.alloc _) ⟨w1.heap.size, 0, none⟩ 1 1 [.int .u64 lf] rfl rfl (cell_one_new _ _ _) (by simp [Value.oneCell']) (by unfold maxLen; omega) (by omega) (by have := hw2.size; simp; omega) ?_)
      intro v3 w3 hown3 hgrow3 _
      have hb3 := below_app (below_alloc hw2 _) hgrow3 (ho2.alloc _)
      have HO := Lib.hid (own_snoc (m := (ys ++ [lf]).length) hown3 (by simp))
      clear hown3 hgrow3 ho1 ho2
      go_wp2
      go_roundw
      case rel => exact ⟨k + j, ys ++ [lf], hjp.2, by go_num, HO.out, by rw [← HE.out, HK.out]; simp, hb3⟩
      case measure => simp [intOf]; omega
    · have d1 : decide ((k : Int) < (xs.length : Int)) = false := decide_eq_false (by omega)
      have d1' : decide (k < xs.length) = false := decide_eq_false hlt
      rw [List.drop_eq_nil_of_le (by omega), blocksOf_nil rfl, List.append_nil] at heq
      have HE := Lib.hid heq
      clear heq l2
      go_wp2
      go_ret
      exact ⟨_, rfl, by rw [← HE.out]; exact ho1, hw1⟩

theorem blocks_none (size : Int) (a : Option Addr) (c : Nat) (n : Nat) (w : World) (hs : size < 1) :
    Calls Try.prog 24 #[.slice a n c, .int .i64 size] w fun e w' => e = .returned (.slice none 0 0) ∧ w = w' := by
  have d0 : decide (size < 1) = true := decide_eq_true hs
  go_enter Try.func24, Try.ntmps24
  go_wp2
  go_ret
  exact ⟨rfl, rfl⟩
theorem rblocks_none (size : Int) (a : Option Addr) (c : Nat) (n : Nat) (w : World) (hs : size < 1) :
    Calls Try.prog 25 #[.slice a n c, .int .i64 size] w fun e w' => e = .returned (.slice none 0 0) ∧ w = w' := by
  have d0 : decide (size < 1) = true := decide_eq_true hs
  go_enter Try.func25, Try.ntmps25
  go_wp2
  go_ret
  exact ⟨rfl, rfl⟩

set_option maxHeartbeats 4000000 in
theorem hashes_law (size n : Int) (a : Option Addr) (c : Nat) (xs : List Int) (w : World) (hs2 : size ≤ 9223372036854775807) (hx : Ints .u8 w a xs) (hb : AllB xs) (hc : xs.length ≤ c) (hnil : a = none → c = 0) :
    Calls Try.prog 7 #[.slice a xs.length c, .int .i64 size, .int .u64 n] w fun e w' => e = .returned (.bool true) ∧ Below w.heap.size w w' := by
  by_cases h : 4096 < xs.length
  · have d1 : decide ((xs.length : Int) > 4096) = true := decide_eq_true (by omega)
    go_enter Try.func7, Try.ntmps7
    go_wp2_with (go_at_call 10; refine (awake_any _).mono ?_; rintro e w1 ⟨rfl, hb⟩)
    go_ret
    exact ⟨rfl, hb⟩
  · have d1 : decide ((xs.length : Int) > 4096) = false := decide_eq_false (by omega)
    have L1 : ∀ wx, Below w.heap.size w wx → Calls Try.prog 20 #[.slice a xs.length c] wx fun e w' => e = .returned (.int .u64 (leafOf xs)) ∧ Below w.heap.size w w' :=
      fun wx hw => (leaf_any a c xs wx (hx.below hw) hb (by omega)).mono fun e w' h => ⟨h.1, by rw [← h.2]; exact hw⟩
    have L2 : ∀ wx, Below w.heap.size w wx → Calls Try.prog 21 #[.slice a xs.length c] wx fun e w' => e = .returned (.int .u64 (leafOf xs)) ∧ Below w.heap.size w w' :=
      fun wx hw => (rleaf_any a c xs wx (hx.below hw) hnil hb (by omega)).mono fun e w' h => ⟨h.1, Below.next hw h.2⟩
    have N1 : ∀ x y wx, Below w.heap.size w wx → Calls Try.prog 22 #[.int .u64 x, .int .u64 y] wx fun e w' => e = .returned (.int .u64 (nodeOf x y)) ∧ Below w.heap.size w w' :=
      fun x y wx hw => (node_any x y wx).mono fun e w' h => ⟨h.1, Below.next hw h.2⟩
    have N2 : ∀ x y wx, Below w.heap.size w wx → Calls Try.prog 23 #[.int .u64 x, .int .u64 y] wx fun e w' => e = .returned (.int .u64 (nodeOf x y)) ∧ Below w.heap.size w w' :=
      fun x y wx hw => (rnode_any x y wx).mono fun e w' h => ⟨h.1, Below.next hw h.2⟩
    have B1 : ∀ wx, Below w.heap.size w wx → Calls Try.prog 24 #[.slice a xs.length c, .int .i64 size] wx fun e w' => ∃ v, e = .returned v ∧ w'.ownsRow w.heap.size 24 1 v (blocksOf xs size.toNat).length ((blocksOf xs size.toNat).map (Value.int .u64)) ∧ Below w.heap.size w w' := by
      intro wx hw
      by_cases h1 : size < 1
      · have e0 : blocksOf xs size.toNat = [] := by rw [blocksOf, dif_pos (by omega)]
        rw [e0]
        exact (blocks_none size a c xs.length wx h1).mono fun e w' h => ⟨_, h.1, World.ownsRow_nil _ _ _ _, by rw [← h.2]; exact hw⟩
      · exact (blocks_any size a c xs wx (by omega) hs2 (hx.below hw) hb hc (by omega)).mono fun e w' ⟨v, h1, h2, h3⟩ => ⟨v, h1, ownsRow_mono h2 hw.size, Below.next hw h3⟩
    have B2 : ∀ wx, Below w.heap.size w wx → Calls Try.prog 25 #[.slice a xs.length c, .int .i64 size] wx fun e w' => ∃ v, e = .returned v ∧ w'.ownsRow w.heap.size 24 1 v (blocksOf xs size.toNat).length ((blocksOf xs size.toNat).map (Value.int .u64)) ∧ Below wx.heap.size wx w' := by
      intro wx hw
      by_cases h1 : size < 1
      · have e0 : blocksOf xs size.toNat = [] := by rw [blocksOf, dif_pos (by omega)]
        rw [e0]
        exact (rblocks_none size a c xs.length wx h1).mono fun e w' h => ⟨_, h.1, World.ownsRow_nil _ _ _ _, by rw [← h.2]; exact Below.refl _ _⟩
      · exact (rblocks_any size a c xs wx (by omega) hs2 (hx.below hw) hb hc (by omega) hnil).mono fun e w' ⟨v, h1, h2, h3⟩ => ⟨v, h1, ownsRow_mono h2 hw.size, h3⟩
    have hbl := blocksOf_length _ xs size.toNat (Nat.le_refl _)
    have e1 : (leafOf xs == leafOf xs) = true := beq_self_eq_true _
    have e2 : (nodeOf n (leafOf xs) == nodeOf n (leafOf xs)) = true := beq_self_eq_true _
    generalize leafOf xs = lf at *
    generalize blocksOf xs size.toNat = bs at *
    have LL1 := Lib.hid L1
    have LL2 := Lib.hid L2
    have NN1 := Lib.hid N1
    have NN2 := Lib.hid N2
    have BB1 := Lib.hid B1
    have BB2 := Lib.hid B2
    clear L1 L2 N1 N2 B1 B2 hx hb
    go_enter Try.func7, Try.ntmps7
    go_wp2_with fail
    refine (LL1.out _ (Below.refl _ _)).mono ?_
    rintro e w1 ⟨rfl, hb1⟩
    go_wp2_with fail
    refine (LL2.out _ hb1).mono ?_
    rintro e w2 ⟨rfl, hb2⟩
    go_wp2_with fail
    refine (LL1.out _ hb2).mono ?_
    rintro e w3 ⟨rfl, hb3⟩
    go_wp2_with fail
    refine (NN1.out _ _ _ hb3).mono ?_
    rintro e w4 ⟨rfl, hb4⟩
    go_wp2_with fail
    refine (LL2.out _ hb4).mono ?_
    rintro e w5 ⟨rfl, hb5⟩
    go_wp2_with fail
    refine (NN2.out _ _ _ hb5).mono ?_
    rintro e w6 ⟨rfl, hb6⟩
    go_wp2_with fail
    refine (BB1.out _ hb6).mono ?_
    rintro e w7 ⟨v7, rfl, ho7, hb7⟩
    go_wp2_with fail
    refine (BB2.out _ hb7).mono ?_
    rintro e w8 ⟨v8, rfl, ho8, hb8⟩
    obtain ⟨a1, c1, rfl, hp1⟩ := ints_own (ownsRow_below ho7 hb8)
    obtain ⟨a2, c2, rfl, hp2⟩ := ints_own ho8
    have hb8' := Below.next hb7 hb8
    clear ho7 ho8
    go_wp2_with fail
    refine (same_any a1 a2 c1 c2 bs w8 hp1 hp2 (by omega)).mono ?_
    rintro e w9 ⟨rfl, hb9⟩
    go_wp2_with fail
    refine (awake_any _).mono ?_
    rintro e w10 ⟨rfl, hb10⟩
    go_wp2
    go_ret
    exact ⟨rfl, Below.next hb8' (Below.next hb9 hb10)⟩
end Go.Proofs.Ytibakdebmclkiaa
