/- The contracts of the hashes of merkle and of its reference: each returns a fold of one step over bytes. -/
import Derived.Test.YtibakdebmclkiaaShelf
import Derived.WalkKit
import Derived.WalkLawsBesides
import Derived.Deep.QuietTactic
import Derived.BigQuiet
import Derived.Deep.RegionHeld3
import Derived.Lib.Hide
import Derived.KernelRfl
namespace Go.Proofs.Ytibakdebmclkiaa
open Go.RowKit
set_option linter.unusedVariables false
set_option linter.unusedSimpArgs false

theorem ret_int {k : IntKind} {a b : Int} (h : a = b) : Ending.returned (.int k a) = .returned (.int k b) := by rw [h]

/-- A hash's step. -/
def hadd (h c : Int) : Int := IntKind.u64.wrap (Go.bits .xor .u64 h c * 1099511628211)

/-- The first cells at a read as whole numbers of a kind. -/
def Ints (k : IntKind) (w : World) (a : Option Addr) (xs : List Int) : Prop :=
  xs = [] ∨ ∃ x, a = some x ∧ ∀ i, i < xs.length → w.cell? (x.add i) = some (.int k (xs.getD i 0))

theorem Ints.at {k : IntKind} {w : World} {a : Option Addr} {xs : List Int} (h : Ints k w a xs) {i : Nat} (hi : i < xs.length) : ∃ x, a = some x ∧ w.cell? (x.add i) = some (.int k (xs.getD i 0)) := by
  rcases h with rfl | ⟨x, hx, h⟩
  · simp at hi
  · exact ⟨x, hx, h i hi⟩

/-- Each is of the kind u8. -/
def AllB (xs : List Int) : Prop := ∀ x ∈ xs, 0 ≤ x ∧ x ≤ 255
theorem AllB.at {xs : List Int} (h : AllB xs) {i : Nat} (hi : i < xs.length) : 0 ≤ xs[i] ∧ xs[i] ≤ 255 := h _ (List.getElem_mem hi)

theorem foldl_take_succ {α : Type} (f : α → Int → α) (z : α) (xs : List Int) (k : Nat) (h : k < xs.length) : (xs.take (k + 1)).foldl f z = f ((xs.take k).foldl f z) xs[k] := by
  rw [List.take_succ_eq_append_getElem h, List.foldl_append]; rfl

theorem wrap_byte {x : Int} (h0 : 0 ≤ x) (h1 : x ≤ 255) : IntKind.u64.wrap x = x := by
  simp only [IntKind.wrap, IntKind.signed, IntKind.bits]; simp; omega

set_option maxHeartbeats 400000 in
theorem rhash_any (a : Option Addr) (c : Nat) (xs : List Int) (w : World) (hx : Ints .u8 w a xs) (hb : AllB xs) (hl : xs.length ≤ 140737488351232) :
    Calls Try.prog 29 #[.slice a xs.length c] w fun e w' => e = .returned (.int .u64 (xs.foldl hadd 14695981039346656037)) ∧ w = w' := by
  go_enter Try.func29, Try.ntmps29
  go_wp2
  go_loop [3, 4] (fun h i => ∃ k : Nat, k ≤ xs.length ∧ i = .int .i64 k ∧ h = .int .u64 ((xs.take k).foldl hadd 14695981039346656037)) (fun _ i => xs.length - (intOf i).toNat)
  case atStart => exact ⟨0, Nat.zero_le _, rfl, rfl⟩
  case round =>
    obtain ⟨k, hk, rfl, rfl⟩ := hrel
    by_cases hlt : k < xs.length
    · obtain ⟨x, hxa, hcell⟩ := hx.at hlt
      subst hxa
      have hb0 := hb.at hlt
      have HX := Lib.hid hx
      have HB := Lib.hid hb0
      clear hx hb0
      go_wp2
      go_round
      case rel => exact ⟨k + 1, by omega, by go_num, by rw [foldl_take_succ _ _ _ _ hlt, wrap_byte HB.out.1 HB.out.2]; rfl⟩
      case measure => simp [intOf]; omega
    · go_wp2
      go_ret
      exact ⟨ret_int (by rw [List.take_of_length_le (by omega)]), rfl⟩

theorem hadd_any (h c : Int) (w : World) (_h0 : 0 ≤ c) (_h1 : c ≤ 255) :
    Calls Try.prog 37 #[.int .u64 h, .int .u8 c] w fun e w' => e = .returned (.int .u64 (hadd h c)) ∧ w = w' := by
  go_enter Try.func37, Try.ntmps37
  go_wp2
  go_ret
  exact ⟨rfl, rfl⟩

/-- The eight bytes of a number, the greatest first. -/
def byAt (x : Int) (s : Nat) : Int := (x / 2 ^ s) % 256
def bys (x : Int) : List Int := [56, 48, 40, 32, 24, 16, 8, 0].map (byAt x)

set_option maxHeartbeats 400000 in
theorem numbers_any (h : Int) (a : Option Addr) (c : Nat) (xs : List Int) (w : World) (hx : Ints .u64 w a xs) (hl : xs.length ≤ 140737488351232) :
    Calls Try.prog 38 #[.int .u64 h, .slice a xs.length c] w fun e w' => e = .returned (.int .u64 (xs.foldl (fun h x => (bys x).foldl hadd h) h)) ∧ w = w' := by
  go_enter Try.func38, Try.ntmps38
  go_wp2
  go_loop [0, 10] (fun g i => ∃ k : Nat, k ≤ xs.length ∧ i = .int .i64 k ∧ g = .int .u64 ((xs.take k).foldl (fun h x => (bys x).foldl hadd h) h)) (fun _ i => xs.length - (intOf i).toNat)
  case atStart => exact ⟨0, Nat.zero_le _, rfl, rfl⟩
  case round =>
    obtain ⟨k, hk, rfl, rfl⟩ := hrel
    by_cases hlt : k < xs.length
    · obtain ⟨x, hxa, hcell⟩ := hx.at hlt
      subst hxa
      have HX := Lib.hid hx
      clear hx
      generalize hg : (xs.take k).foldl (fun h x => (bys x).foldl hadd h) h = g
      have HG := Lib.hid hg
      clear hg
      go_wp2
      go_loop [0, 7] (fun g' i => ∃ j : Nat, j ≤ 8 ∧ i = .int .i64 (56 - 8 * j) ∧ g' = .int .u64 (((bys xs[k]).take j).foldl hadd g)) (fun _ i => (intOf i + 8).toNat)
      case atStart => exact ⟨0, by omega, by rfl, rfl⟩
      case round =>
        obtain ⟨j, hj, rfl, rfl⟩ := hrel
        by_cases hlj : j < 8
        · have d1 : (56 : Int) - 8 * j ≥ 0 := by omega
          have hy : (bys xs[k]).length = 8 := rfl
          have hyj : (bys xs[k])[j] = xs[k] / 2 ^ (56 - 8 * j) % 256 := by
            have : j = 0 ∨ j = 1 ∨ j = 2 ∨ j = 3 ∨ j = 4 ∨ j = 5 ∨ j = 6 ∨ j = 7 := by omega
            rcases this with rfl | rfl | rfl | rfl | rfl | rfl | rfl | rfl <;> rfl
          have HY := Lib.hid hyj
          have HZ := Lib.hid hy
          clear hyj hy
          go_wp2_with (go_at_call 37; refine (hadd_any _ _ _ (by omega) (by omega)).mono ?_; rintro e w' ⟨rfl, rfl⟩)
          go_round
          case rel => exact ⟨j + 1, by omega, by go_num, by rw [foldl_take_succ _ _ _ _ (by rw [HZ.out]; omega)]; exact congrArg (fun z => Value.int .u64 (hadd _ z)) HY.out.symm⟩
          case measure => simp [intOf]; omega
        · obtain rfl : j = 8 := by omega
          go_wp2
          go_round
          case rel => exact ⟨k + 1, by omega, by go_num, by rw [foldl_take_succ _ _ _ _ hlt, HG.out]; rfl⟩
          case measure => simp [intOf]; omega
    · go_wp2
      go_ret
      exact ⟨ret_int (by rw [List.take_of_length_le (by omega)]), rfl⟩

def offset : Int := 14695981039346656037
def nodeOf (a b : Int) : Int := ((1 :: bys a) ++ bys b).foldl hadd 14695981039346656037
def leafOf (b : List Int) : Int := (0 :: b).foldl hadd 14695981039346656037

theorem ints_alloc (w : World) (k : IntKind) (xs : List Int) (t : TypeId) : Ints k (w.alloc (.cells (xs.map (Value.int k)).toArray t)) (some ⟨w.heap.size, 0, none⟩) xs := by
  refine .inr ⟨_, rfl, fun i hi => ?_⟩
  have e : (⟨w.heap.size, 0, none⟩ : Addr).add i = ⟨w.heap.size, i, none⟩ := by
    by_cases h : i = 0
    · subst h; rfl
    · simp [Addr.add, h]
  rw [e, World.cell?_alloc_at _ _ _ _ rfl]
  simp [hi]

set_option maxHeartbeats 400000 in
theorem node_any (a b : Int) (w : World) :
    Calls Try.prog 22 #[.int .u64 a, .int .u64 b] w fun e w' => e = .returned (.int .u64 (nodeOf a b)) ∧ Below w.heap.size w w' := by
  go_enter Try.func22, Try.ntmps22
  go_wp2_with (first | (go_at_call 37; refine (hadd_any _ _ _ (by omega) (by omega)).mono ?_; rintro e w' ⟨rfl, rfl⟩))
  refine (numbers_any _ _ _ [a, b] _ (ints_alloc w .u64 [a, b] 24) (by simp)).mono ?_
  rintro e w' ⟨rfl, rfl⟩
  go_wp2
  go_ret
  exact ⟨ret_int (by simp only [nodeOf, List.foldl_append, List.foldl_cons, List.foldl_nil]), (Below.refl _ _).alloc (Nat.le_refl _) _⟩

set_option maxHeartbeats 400000 in
theorem leaf_any (a : Option Addr) (c : Nat) (xs : List Int) (w : World) (hx : Ints .u8 w a xs) (hb : AllB xs) (hl : xs.length ≤ 140737488351232) :
    Calls Try.prog 20 #[.slice a xs.length c] w fun e w' => e = .returned (.int .u64 (leafOf xs)) ∧ w = w' := by
  go_enter Try.func20, Try.ntmps20
  go_wp2_with (first | (go_at_call 37; refine (hadd_any _ _ _ (by omega) (by omega)).mono ?_; rintro e w' ⟨rfl, rfl⟩))
  go_loop [3, 9] (fun h i => ∃ k : Nat, k ≤ xs.length ∧ i = .int .i64 k ∧ h = .int .u64 ((xs.take k).foldl hadd (hadd 14695981039346656037 0))) (fun _ i => xs.length - (intOf i).toNat)
  case atStart => exact ⟨0, Nat.zero_le _, rfl, rfl⟩
  case round =>
    obtain ⟨k, hk, rfl, rfl⟩ := hrel
    by_cases hlt : k < xs.length
    · obtain ⟨x, hxa, hcell⟩ := hx.at hlt
      subst hxa
      have hb0 := hb.at hlt
      have HX := Lib.hid hx
      have HB := Lib.hid hb0
      clear hx hb0
      go_wp2_with (first | (go_at_call 37; refine (hadd_any _ _ _ HB.out.1 HB.out.2).mono ?_; rintro e w' ⟨rfl, rfl⟩))
      go_round
      case rel => exact ⟨k + 1, by omega, by go_num, by rw [foldl_take_succ _ _ _ _ hlt]⟩
      case measure => simp [intOf]; omega
    · go_wp2
      go_ret
      exact ⟨ret_int (by rw [List.take_of_length_le (by omega)]; rfl), rfl⟩

/-- The greatest power of two below n (n at least 2). -/
def splitOf (n : Nat) : Nat := 2 ^ Nat.log2 (n - 1)

theorem bitLen_log2 (x : Nat) (h0 : x ≠ 0) (h : x < 2 ^ 64) : Lib.bitLen x = Nat.log2 x + 1 := by
  induction x using Nat.strongRecOn with
  | _ x ih =>
    rw [Lib.bitLen_half x h0 h, Nat.log2_def]
    by_cases h2 : 2 ≤ x
    · rw [if_pos h2, ih (x / 2) (by omega) (by omega) (by omega)]; omega
    · obtain rfl : x = 1 := by omega
      simp [Lib.bitLen, Lib.bitLenAux]

theorem splitOf_lt {n : Nat} (h : 2 ≤ n) : splitOf n < n := by
  have := Nat.log2_self_le (n := n - 1) (by omega)
  unfold splitOf; omega
theorem splitOf_pos (n : Nat) : 0 < splitOf n := Nat.two_pow_pos _
theorem splitOf_ge {n : Nat} (h : 2 ≤ n) : n ≤ 2 * splitOf n := by
  have := Nat.lt_log2_self (n := n - 1)
  unfold splitOf; rw [Nat.pow_succ] at this; omega
theorem splitOf_eq {n p : Nat} (h1 : 2 ^ p < n) (h2 : n ≤ 2 * 2 ^ p) : splitOf n = 2 ^ p := by
  have h0 : 0 < 2 ^ p := Nat.two_pow_pos p
  have e : Nat.log2 (n - 1) = p := (Nat.log2_eq_iff (by omega)).2 ⟨by omega, by rw [Nat.pow_succ]; omega⟩
  unfold splitOf
  rw [e]

set_option maxHeartbeats 400000 in
theorem split_any (n : Int) (w : World) (h0 : 2 ≤ n) (h1 : n ≤ 9223372036854775807) :
    Calls Try.prog 28 #[.int .i64 n] w fun e w' => e = .returned (.int .i64 (splitOf n.toNat)) ∧ w = w' := by
  have hL := bitLen_log2 (n - 1).toNat (by omega) (by omega)
  have hq : Nat.log2 (n - 1).toNat < 63 := (Nat.log2_lt (by omega)).2 (by omega)
  have hs : splitOf n.toNat = 2 ^ Nat.log2 (n - 1).toNat := by unfold splitOf; congr 2; omega
  generalize Nat.log2 (n - 1).toNat = L at hL hq hs
  have HL := Lib.hid hL
  have HS := Lib.hid hs
  clear hL hs
  go_enter Try.func28, Try.ntmps28
  go_wp2_with fail
  refine (Try.bits_Len _ _ (by omega) (by omega)).mono ?_
  rw [HL.out]
  rintro e w' ⟨rfl, rfl⟩
  go_wp2
  go_ret
  refine ⟨ret_int ?_, rfl⟩
  have hp : (2 : Nat) ^ L ≤ 2 ^ 62 := Nat.pow_le_pow_right (by omega) (by omega)
  rw [HS.out]
  have e : ((2 ^ L : Nat) : Int) = (2 : Int) ^ L := by simp
  rw [e]
  have h0 : 0 ≤ ((2 ^ L : Nat) : Int) := Int.natCast_nonneg _
  have hp' : ((2 ^ L : Nat) : Int) ≤ ((2 ^ 62 : Nat) : Int) := Int.ofNat_le.2 hp
  rw [e] at h0 hp'
  generalize (2 : Int) ^ L = z at *
  have : ((2 ^ 62 : Nat) : Int) = 4611686018427387904 := rfl
  unfold wrap64; omega

set_option maxHeartbeats 400000 in
theorem rsplit_any (n : Int) (w : World) (h0 : 2 ≤ n) (h1 : n ≤ 9223372036854775807) :
    Calls Try.prog 30 #[.int .i64 n] w fun e w' => e = .returned (.int .i64 (splitOf n.toNat)) ∧ w = w' := by
  go_enter Try.func30, Try.ntmps30
  go_wp2
  go_loop [3] (fun k => ∃ p : Nat, (2 ^ p : Nat) < n.toNat ∧ k = .int .i64 (2 ^ p : Nat)) (fun k => (n - intOf k).toNat)
  case atStart => exact ⟨0, by simp; omega, rfl⟩
  case round =>
    obtain ⟨p, hp, rfl⟩ := hrel
    have hpp : 2 ^ (p + 1) = 2 ^ p * 2 := Nat.pow_succ ..
    have HP := Lib.hid hpp
    clear hpp
    have h3 : 0 < 2 ^ p := Nat.two_pow_pos p
    generalize hq : 2 ^ p = q at *
    have HQ := Lib.hid hq
    clear hq
    by_cases hlt : q < n.toNat - q
    · have d1 : (q : Int) < n - q := by omega
      go_wp2
      go_round
      case rel => exact ⟨p + 1, by rw [HP.out]; omega, by rw [HP.out]; go_num⟩
      case measure => simp [intOf]; omega
    · have d1 : ¬ (q : Int) < n - q := by omega
      go_wp2
      go_ret
      exact ⟨ret_int (by rw [splitOf_eq (p := p) (by rw [HQ.out]; omega) (by rw [HQ.out]; omega), HQ.out]), rfl⟩
end Go.Proofs.Ytibakdebmclkiaa
