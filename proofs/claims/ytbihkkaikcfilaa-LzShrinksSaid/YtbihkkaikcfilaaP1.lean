/- Plain functions: a number of an encoding, a token, and what a compressed form stands for. -/
import Derived.IntWalk
namespace Go.Proofs.Ytbihkkaikcfilaa
open Go
set_option linter.unusedVariables false

/-- The number that begins at a place: its value, the place behind it, and the error (6 too long, 2 truncated, 1 syntax). -/
def ug (b : List Int) (p : Nat) : Nat → Nat → Int → Int × Int × Int
  | 0, _, _ => (0, 0, 6)
  | f + 1, i, n =>
    if b.length ≤ p + i then (0, 0, 2)
    else if 128 ≤ b.getD (p + i) 0 then ug b p f (i + 1) (n + (b.getD (p + i) 0 - 128) * 128 ^ i)
    else if i = 9 ∧ 1 < b.getD (p + i) 0 then (0, 0, 6)
    else if 0 < i ∧ b.getD (p + i) 0 = 0 then (0, 0, 1)
    else (n + b.getD (p + i) 0 * 128 ^ i, p + i + 1, 0)
def uintOf (b : List Int) (p : Nat) : Int × Int × Int := ug b p 10 0 0

structure Tok where
  n : Int
  d : Int
  e : Int
  next : Int

/-- A token: how many bytes, the distance (0: literals), the error, and the reader's place behind it. -/
def tokOf (b : List Int) (p : Nat) (size most : Int) : Tok :=
  let u := uintOf b p
  if u.2.2 ≠ 0 then ⟨0, 0, u.2.2, p⟩
  else if u.1 / 2 = 0 then ⟨0, 0, 1, u.2.1⟩
  else if u.1 % 2 = 0 then
    if max (most - size) 0 < u.1 / 2 then ⟨0, 0, 6, u.2.1⟩
    else if (b.length : Int) - u.2.1 < u.1 / 2 then ⟨0, 0, 2, u.2.1⟩
    else ⟨u.1 / 2, 0, 0, u.2.1⟩
  else
    let v := uintOf b u.2.1.toNat
    if v.2.2 ≠ 0 then ⟨0, 0, v.2.2, u.2.1⟩
    else if v.1 = 0 ∨ size < v.1 then ⟨0, 0, 7, v.2.1⟩
    else if max (most - size) 0 < u.1 / 2 then ⟨0, 0, 6, v.2.1⟩
    else ⟨u.1 / 2, v.1, 0, v.2.1⟩

def cpy (out : List Int) (d : Nat) : Nat → List Int
  | 0 => out
  | n + 1 => cpy out d n ++ [(cpy out d n).getD ((cpy out d n).length - d) 0]

def unp (b : List Int) (most : Int) (p : Nat) (out : List Int) : List Int × Int :=
  if h : p < b.length then
    if (tokOf b p out.length most).e ≠ 0 then ([], (tokOf b p out.length most).e)
    else if (tokOf b p out.length most).d = 0 then
      if h2 : (p : Int) < (tokOf b p out.length most).next + (tokOf b p out.length most).n then unp b most ((tokOf b p out.length most).next + (tokOf b p out.length most).n).toNat (out ++ (b.drop (tokOf b p out.length most).next.toNat).take (tokOf b p out.length most).n.toNat) else ([], 99)
    else
      if h2 : (p : Int) < (tokOf b p out.length most).next then unp b most (tokOf b p out.length most).next.toNat (cpy out (tokOf b p out.length most).d.toNat (tokOf b p out.length most).n.toNat) else ([], 99)
  else (out, 0)
termination_by b.length - p
decreasing_by
  · omega
  · omega

/-! ### Facts -/
theorem ug_ok (b : List Int) (p : Nat) (hb : ∀ x ∈ b, 0 ≤ x ∧ x ≤ 255) : ∀ (f i : Nat) (n : Int), i + f = 10 → 0 ≤ n → n < 128 ^ i → (ug b p f i n).2.2 = 0 → 0 ≤ (ug b p f i n).1 ∧ (ug b p f i n).1 < 18446744073709551616 ∧ p + i < (ug b p f i n).2.1 ∧ (ug b p f i n).2.1 ≤ b.length := by
  intro f
  induction f with
  | zero => intro i n _ _ _ h; simp [ug] at h
  | succ f ih =>
    intro i n hf h0 h1 h
    have hp : (0 : Int) < 128 ^ i := Int.pow_pos (by omega)
    have hs : (128 : Int) ^ (i + 1) = 128 ^ i * 128 := Int.pow_succ ..
    unfold ug at h ⊢
    by_cases c1 : b.length ≤ p + i
    · rw [if_pos c1] at h; simp at h
    · rw [if_neg c1] at h ⊢
      have hx : 0 ≤ b.getD (p + i) 0 ∧ b.getD (p + i) 0 ≤ 255 := by
        rw [List.getD_eq_getElem?_getD, List.getElem?_eq_getElem (by omega)]
        exact hb _ (List.getElem_mem _)
      generalize b.getD (p + i) 0 = x at *
      by_cases c2 : 128 ≤ x
      · rw [if_pos c2] at h ⊢
        have hm : (x - 128) * 128 ^ i ≤ 127 * 128 ^ i := Int.mul_le_mul_of_nonneg_right (by omega) (by omega)
        have hm0 : 0 ≤ (x - 128) * 128 ^ i := Int.mul_nonneg (by omega) (by omega)
        have := ih (i + 1) _ (by omega) (by omega) (by omega) h
        omega
      · rw [if_neg c2] at h ⊢
        by_cases c3 : i = 9 ∧ 1 < x
        · rw [if_pos c3] at h; simp at h
        · rw [if_neg c3] at h ⊢
          by_cases c4 : 0 < i ∧ x = 0
          · rw [if_pos c4] at h; simp at h
          · rw [if_neg c4]
            have hm0 : 0 ≤ x * 128 ^ i := Int.mul_nonneg (by omega) (by omega)
            refine ⟨by simp; omega, ?_, by simp; omega, by simp; omega⟩
            show n + x * 128 ^ i < _
            by_cases h9 : i = 9
            · subst h9
              have : x * 128 ^ 9 ≤ 1 * 128 ^ 9 := Int.mul_le_mul_of_nonneg_right (by omega) (by omega)
              have e : (128 : Int) ^ 9 = 9223372036854775808 := by decide
              omega
            · have hm : x * 128 ^ i ≤ 127 * 128 ^ i := Int.mul_le_mul_of_nonneg_right (by omega) (by omega)
              have hi : (128 : Int) ^ (i + 1) ≤ 128 ^ 9 := by
                have : (128 : Nat) ^ (i + 1) ≤ 128 ^ 9 := Nat.pow_le_pow_right (by omega) (by omega)
                have h2 : (((128 : Nat) ^ (i + 1) : Nat) : Int) ≤ ((128 ^ 9 : Nat) : Int) := Int.ofNat_le.2 this
                simpa using h2
              have e : (128 : Int) ^ 9 = 9223372036854775808 := by decide
              omega

theorem pow7 (k : Nat) : (2 : Int) ^ (7 * k) = 128 ^ k := by rw [Int.pow_mul]; rfl
theorem pow9 (k : Nat) (h : k ≤ 9) : (128 : Int) ^ k ≤ 9223372036854775808 := by
  have : (128 : Nat) ^ k ≤ 128 ^ 9 := Nat.pow_le_pow_right (by omega) h
  have h2 : (((128 : Nat) ^ k : Nat) : Int) ≤ ((128 ^ 9 : Nat) : Int) := Int.ofNat_le.2 this
  simpa using h2
/-- A step of the loop: nothing wraps before the tenth byte. -/
theorem shl_step (k : Nat) (t z : Int) (hk : k ≤ 8) (h0 : 0 ≤ t) (h1 : t ≤ 127) (hz : 0 ≤ z ∧ z < 128 ^ k) :
    IntKind.u64.wrap (z + IntKind.u64.wrap (t * 2 ^ (7 * k))) = z + t * 128 ^ k ∧ 0 ≤ z + t * 128 ^ k ∧ z + t * 128 ^ k < 128 ^ (k + 1) := by
  rw [pow7]
  have hp : (0 : Int) < 128 ^ k := Int.pow_pos (by omega)
  have hs : (128 : Int) ^ (k + 1) = 128 ^ k * 128 := Int.pow_succ ..
  have h9 := pow9 (k + 1) (by omega)
  have hm : t * 128 ^ k ≤ 127 * 128 ^ k := Int.mul_le_mul_of_nonneg_right (by omega) (by omega)
  have hm0 : 0 ≤ t * 128 ^ k := Int.mul_nonneg (by omega) (by omega)
  rw [IntWalk.u64_in (t * 128 ^ k) (by omega), IntWalk.u64_in _ (by omega)]
  omega
theorem shl_last (k : Nat) (t z : Int) (hk : k ≤ 9) (h0 : 0 ≤ t) (h1 : t ≤ 127) (h9 : k = 9 → t ≤ 1) (hz : 0 ≤ z ∧ z < 128 ^ k) :
    IntKind.u64.wrap (z + IntKind.u64.wrap (t * 2 ^ (7 * k))) = z + t * 128 ^ k := by
  by_cases h8 : k ≤ 8
  · exact (shl_step k t z h8 h0 h1 hz).1
  · obtain rfl : k = 9 := by omega
    rw [pow7]
    have e : (128 : Int) ^ 9 = 9223372036854775808 := by decide
    rw [e] at hz ⊢
    have := h9 rfl
    rw [IntWalk.u64_in (t * 9223372036854775808) (by omega), IntWalk.u64_in _ (by omega)]

theorem cpy_length (out : List Int) (d n : Nat) : (cpy out d n).length = out.length + n := by
  induction n with
  | zero => rfl
  | succ n ih => rw [cpy, List.length_append, ih]; rfl
theorem cpy_all (out : List Int) (d n : Nat) (h : ∀ x ∈ out, 0 ≤ x ∧ x ≤ 255) : ∀ x ∈ cpy out d n, 0 ≤ x ∧ x ≤ 255 := by
  induction n with
  | zero => exact h
  | succ n ih =>
    intro x hx
    rw [cpy] at hx
    rcases List.mem_append.1 hx with hx | hx
    · exact ih x hx
    · rw [List.mem_singleton] at hx
      subst hx
      rw [List.getD_eq_getElem?_getD]
      rcases Nat.lt_or_ge ((cpy out d n).length - d) (cpy out d n).length with hl | hl
      · rw [List.getElem?_eq_getElem hl]; exact ih _ (List.getElem_mem _)
      · rw [List.getElem?_eq_none hl]; simp

/-- What is known of a token without an error. -/
theorem tok_ok (b : List Int) (p : Nat) (size most : Int) (hb : ∀ x ∈ b, 0 ≤ x ∧ x ≤ 255) (h : (tokOf b p size most).e = 0) :
    1 ≤ (tokOf b p size most).n ∧ (tokOf b p size most).n ≤ max (most - size) 0 ∧ (p : Int) < (tokOf b p size most).next ∧ (tokOf b p size most).next ≤ b.length ∧
      ((tokOf b p size most).d = 0 → (tokOf b p size most).next + (tokOf b p size most).n ≤ b.length) ∧ 0 ≤ (tokOf b p size most).d ∧ ((tokOf b p size most).d ≠ 0 → (tokOf b p size most).d ≤ size) := by
  have hok : ∀ q : Nat, (uintOf b q).2.2 = 0 → 0 ≤ (uintOf b q).1 ∧ (uintOf b q).1 < 18446744073709551616 ∧ (q : Int) < (uintOf b q).2.1 ∧ (uintOf b q).2.1 ≤ b.length := fun q h => by
    have := ug_ok b q hb 10 0 0 (by omega) (by omega) (by simp) h; simpa [uintOf] using this
  have h1 := hok p
  unfold tokOf at h ⊢
  generalize uintOf b p = u at *
  obtain ⟨x, nx, er⟩ := u
  simp only at h h1 ⊢
  by_cases c1 : er ≠ 0
  · rw [if_pos c1] at h; exact absurd h c1
  rw [if_neg c1] at h ⊢
  obtain ⟨a1, a2, a3, a4⟩ := h1 (by omega)
  by_cases c2 : x / 2 = 0
  · rw [if_pos c2] at h; simp at h
  rw [if_neg c2] at h ⊢
  by_cases c3 : x % 2 = 0
  · rw [if_pos c3] at h ⊢
    by_cases c4 : max (most - size) 0 < x / 2
    · rw [if_pos c4] at h; simp at h
    rw [if_neg c4] at h ⊢
    by_cases c5 : (b.length : Int) - nx < x / 2
    · rw [if_pos c5] at h; simp at h
    rw [if_neg c5]
    simp only
    omega
  rw [if_neg c3] at h ⊢
  have h2 := hok nx.toNat
  generalize uintOf b nx.toNat = v at *
  obtain ⟨d, nx2, er2⟩ := v
  simp only at h h2 ⊢
  by_cases c6 : er2 ≠ 0
  · rw [if_pos c6] at h; exact absurd h c6
  rw [if_neg c6] at h ⊢
  obtain ⟨e1, e2, e3, e4⟩ := h2 (by omega)
  by_cases c7 : d = 0 ∨ size < d
  · rw [if_pos c7] at h; simp at h
  rw [if_neg c7] at h ⊢
  by_cases c4 : max (most - size) 0 < x / 2
  · rw [if_pos c4] at h; simp at h
  rw [if_neg c4]
  simp only
  omega

theorem unp_end (b : List Int) (most : Int) (p : Nat) (out : List Int) (h : b.length ≤ p) : unp b most p out = (out, 0) := by
  rw [unp, dif_neg (by omega)]
theorem unp_err (b : List Int) (most : Int) (p : Nat) (out : List Int) (h : p < b.length) (he : (tokOf b p out.length most).e ≠ 0) : unp b most p out = ([], (tokOf b p out.length most).e) := by
  conv => lhs; rw [unp]
  rw [dif_pos h, if_pos he]
theorem unp_lit (b : List Int) (most : Int) (p : Nat) (out : List Int) (hb : ∀ x ∈ b, 0 ≤ x ∧ x ≤ 255) (h : p < b.length) (he : (tokOf b p out.length most).e = 0) (hd : (tokOf b p out.length most).d = 0) :
    unp b most p out = unp b most ((tokOf b p out.length most).next + (tokOf b p out.length most).n).toNat (out ++ (b.drop (tokOf b p out.length most).next.toNat).take (tokOf b p out.length most).n.toNat) := by
  have := tok_ok b p out.length most hb he
  conv => lhs; rw [unp]
  rw [dif_pos h, if_neg (by omega), if_pos hd, dif_pos (by omega)]
theorem unp_cpy (b : List Int) (most : Int) (p : Nat) (out : List Int) (hb : ∀ x ∈ b, 0 ≤ x ∧ x ≤ 255) (h : p < b.length) (he : (tokOf b p out.length most).e = 0) (hd : (tokOf b p out.length most).d ≠ 0) :
    unp b most p out = unp b most (tokOf b p out.length most).next.toNat (cpy out (tokOf b p out.length most).d.toNat (tokOf b p out.length most).n.toNat) := by
  have := tok_ok b p out.length most hb he
  conv => lhs; rw [unp]
  rw [dif_pos h, if_neg (by omega), if_neg hd, dif_pos (by omega)]
end Go.Proofs.Ytbihkkaikcfilaa
