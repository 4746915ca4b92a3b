/- Plain functions: tokens, their form, and what they stand for; Unpack's function takes the form back. -/
import Derived.Test.YtbihkkaikcfilaaP1
namespace Go.Proofs.Ytbihkkaikcfilaa
open Go
set_option linter.unusedVariables false
set_option linter.unusedSimpArgs false

def putN (n : Nat) : List Int := if n < 128 then [(n : Int)] else (((n % 128 + 128 : Nat) : Int)) :: putN (n / 128)
termination_by n
decreasing_by omega
structure Tk where
  lit : List Int
  cnt : Int
  dist : Int
def formT (t : Tk) : List Int := if 0 < t.lit.length then putN (2 * t.lit.length) ++ t.lit else putN (2 * t.cnt + 1).toNat ++ putN t.dist.toNat
def stepT (out : List Int) (t : Tk) : List Int := if 0 < t.lit.length then out ++ t.lit else cpy out t.dist.toNat t.cnt.toNat
def okT (out : List Int) (t : Tk) : Prop := t.lit.length ≤ 4096 ∧ out.length ≤ 65536 ∧ (t.lit.length = 0 → 1 ≤ t.cnt ∧ t.cnt ≤ 4096 ∧ 1 ≤ t.dist ∧ t.dist ≤ out.length)
def okL : List Int → List Tk → Prop
  | _, [] => True
  | out, t :: r => okT out t ∧ okL (stepT out t) r
def wantL (out : List Int) (l : List Tk) : List Int := l.foldl stepT out
def formL (l : List Tk) : List Int := l.flatMap formT

theorem putN_lt {n : Nat} (h : n < 128) : putN n = [(n : Int)] := by rw [putN, if_pos h]
theorem putN_ge {n : Nat} (h : ¬ n < 128) : putN n = ((n % 128 + 128 : Nat) : Int) :: putN (n / 128) := by rw [putN, if_neg h]
theorem putN_pos (n : Nat) : 0 < (putN n).length := by
  by_cases h : n < 128
  · rw [putN_lt h]; simp
  · rw [putN_ge h]; simp
theorem putN_len (n : Nat) (h : n < 2097152) : (putN n).length ≤ 3 := by
  by_cases h1 : n < 128
  · rw [putN_lt h1]; simp
  rw [putN_ge h1]
  by_cases h2 : n / 128 < 128
  · rw [putN_lt h2]; simp
  rw [putN_ge h2, putN_lt (by omega)]; simp
theorem putN_len2 (n : Nat) (h : n < 16384) : (putN n).length ≤ 2 := by
  by_cases h1 : n < 128
  · rw [putN_lt h1]; simp
  rw [putN_ge h1, putN_lt (by omega)]; simp
theorem putN_all (n : Nat) : ∀ x ∈ putN n, 0 ≤ x ∧ x ≤ 255 := by
  induction n using Nat.strongRecOn with
  | ind n ih =>
    intro x hx
    by_cases h : n < 128
    · rw [putN_lt h] at hx; simp at hx; omega
    · rw [putN_ge h] at hx
      rcases List.mem_cons.1 hx with rfl | hx
      · omega
      · exact ih (n / 128) (by omega) x hx

theorem drop_head {b : List Int} {q : Nat} {x : Int} {r : List Int} (h : b.drop q = x :: r) : q < b.length ∧ b.getD q 0 = x ∧ b.drop (q + 1) = r := by
  have hq : q < b.length := by
    rcases Nat.lt_or_ge q b.length with h1 | h1
    · exact h1
    · rw [List.drop_eq_nil_of_le h1] at h; cases h
  rw [List.drop_eq_getElem_cons hq] at h
  injection h with h1 h2
  exact ⟨hq, by simp [hq, h1], h2⟩
theorem pow_split (i : Nat) (h : i ≤ 8) : (128 : Nat) ^ (9 - i) = 128 ^ (9 - (i + 1)) * 128 := by
  rw [← Nat.pow_succ]; congr 1; omega

theorem ug_put (b : List Int) (p : Nat) (n : Nat) : ∀ (i : Nat) (acc : Int) (suf : List Int), b.drop (p + i) = putN n ++ suf → (i = 0 ∨ 0 < n) → n < 128 ^ (9 - i) → i ≤ 8 → ug b p (10 - i) i acc = (acc + (n : Int) * 128 ^ i, ((p + i + (putN n).length : Nat) : Int), (0 : Int)) := by
  induction n using Nat.strongRecOn with
  | ind n ih =>
    intro i acc suf hd hi hn h8
    rw [show 10 - i = (9 - i) + 1 from by omega]
    by_cases h : n < 128
    · rw [putN_lt h] at hd ⊢
      obtain ⟨hq, hx, _⟩ := drop_head (r := suf) hd
      unfold ug
      rw [if_neg (by omega), hx, if_neg (by omega), if_neg (by omega), if_neg (by omega)]
      simp
    · rw [putN_ge h] at hd ⊢
      obtain ⟨hq, hx, hr⟩ := drop_head (r := putN (n / 128) ++ suf) hd
      have h9 : i < 8 := by
        rcases Nat.lt_or_ge i 8 with h1 | h1
        · exact h1
        · obtain rfl : i = 8 := by omega
          simp at hn; omega
      unfold ug
      rw [if_neg (by omega), hx, if_pos (by omega)]
      have := ih (n / 128) (by omega) (i + 1) (acc + (((n % 128 + 128 : Nat) : Int) - 128) * 128 ^ i) suf hr (.inr (by omega)) (by rw [pow_split i h8] at hn; exact Nat.div_lt_of_lt_mul (by rw [Nat.mul_comm]; exact hn)) (by omega)
      rw [show 9 - i = 10 - (i + 1) from by omega, this]
      have e : (n : Int) = (n % 128 : Nat) + 128 * ((n / 128 : Nat) : Int) := by omega
      refine Prod.ext ?_ (Prod.ext ?_ rfl)
      · show acc + (((n % 128 + 128 : Nat) : Int) - 128) * 128 ^ i + ((n / 128 : Nat) : Int) * 128 ^ (i + 1) = acc + (n : Int) * 128 ^ i
        rw [show (((n % 128 + 128 : Nat) : Int) - 128) = ((n % 128 : Nat) : Int) from by omega, Int.pow_succ]
        generalize (128 : Int) ^ i = z
        generalize ((n % 128 : Nat) : Int) = u at *
        generalize ((n / 128 : Nat) : Int) = v at *
        rw [e, Int.add_mul, Int.add_assoc]
        congr 2
        rw [Int.mul_comm z 128, ← Int.mul_assoc, Int.mul_comm v 128]
      · show (((p + (i + 1) + (putN (n / 128)).length : Nat) : Int)) = ((p + i + (_ :: putN (n / 128)).length : Nat) : Int)
        simp; omega
theorem uint_put (b : List Int) (p n : Nat) (suf : List Int) (hd : b.drop p = putN n ++ suf) (hn : n < 128 ^ 9) : uintOf b p = ((n : Int), ((p + (putN n).length : Nat) : Int), (0 : Int)) := by
  have := ug_put b p n 0 0 suf hd (.inl rfl) hn (by omega)
  simpa [uintOf] using this
theorem drop_app {b u v : List Int} {p : Nat} (h : b.drop p = u ++ v) : b.drop (p + u.length) = v := by
  rw [← List.drop_drop, h, List.drop_left]
theorem drop_len {b u v : List Int} {p : Nat} (h : b.drop p = u ++ v) (hu : 0 < u.length) : p + u.length ≤ b.length := by
  have := congrArg List.length h
  simp at this; omega

/-- The tokens' results. -/
theorem tok_lit (b : List Int) (p : Nat) (size most : Int) (lit suf : List Int) (hd : b.drop p = putN (2 * lit.length) ++ (lit ++ suf)) (h0 : 0 < lit.length) (h1 : lit.length ≤ 1000000) (hm : size + lit.length ≤ most) :
    tokOf b p size most = ⟨lit.length, 0, 0, ((p + (putN (2 * lit.length)).length : Nat) : Int)⟩ := by
  have hu := uint_put b p _ _ hd (by omega)
  have hl := drop_len hd (putN_pos _)
  have hl2 := drop_len (drop_app hd) h0
  unfold tokOf
  simp only [hu]
  rw [if_neg (by simp), if_neg (by omega), if_pos (by omega), if_neg (by omega), if_neg (by omega)]
  congr 1
  omega
theorem tok_lit_long (b : List Int) (p : Nat) (size most : Int) (lit suf : List Int) (hd : b.drop p = putN (2 * lit.length) ++ (lit ++ suf)) (h0 : 0 < lit.length) (h1 : lit.length ≤ 1000000) (hs : 0 ≤ size) (hm : ¬ size + lit.length ≤ most) :
    (tokOf b p size most).e = 6 := by
  have hu := uint_put b p _ _ hd (by omega)
  unfold tokOf
  simp only [hu]
  rw [if_neg (by simp), if_neg (by omega), if_pos (by omega), if_pos (by omega)]
theorem tok_cpy (b : List Int) (p : Nat) (size most : Int) (n d : Nat) (suf : List Int) (hd : b.drop p = putN (2 * n + 1) ++ (putN d ++ suf)) (h0 : 0 < n) (h1 : n ≤ 1000000) (hd0 : 0 < d) (hd1 : (d : Int) ≤ size) (hd2 : d ≤ 1000000) (hm : size + n ≤ most) :
    tokOf b p size most = ⟨n, d, 0, ((p + (putN (2 * n + 1)).length + (putN d).length : Nat) : Int)⟩ := by
  have hu := uint_put b p _ _ hd (by omega)
  have hv := uint_put b _ d suf (drop_app hd) (by omega)
  unfold tokOf
  simp only [hu, Int.toNat_natCast, hv]
  rw [if_neg (by simp), if_neg (by omega), if_neg (by omega), if_neg (by simp), if_neg (by omega), if_neg (by omega)]
  congr 1
  omega
theorem tok_cpy_long (b : List Int) (p : Nat) (size most : Int) (n d : Nat) (suf : List Int) (hd : b.drop p = putN (2 * n + 1) ++ (putN d ++ suf)) (h0 : 0 < n) (h1 : n ≤ 1000000) (hd0 : 0 < d) (hd1 : (d : Int) ≤ size) (hd2 : d ≤ 1000000) (hm : ¬ size + n ≤ most) :
    (tokOf b p size most).e = 6 := by
  have hu := uint_put b p _ _ hd (by omega)
  have hv := uint_put b _ d suf (drop_app hd) (by omega)
  unfold tokOf
  simp only [hu, Int.toNat_natCast, hv]
  rw [if_neg (by simp), if_neg (by omega), if_neg (by omega), if_neg (by simp), if_neg (by omega), if_pos (by omega)]

theorem step_len (out : List Int) (t : Tk) (h : okT out t) : out.length < (stepT out t).length ∧ (stepT out t).length ≤ out.length + 4096 := by
  obtain ⟨h1, h2, h3⟩ := h
  unfold stepT
  split
  · simp; omega
  · have := h3 (by omega)
    rw [cpy_length]; omega
theorem want_len (l : List Tk) : ∀ (out : List Int), okL out l → out.length ≤ (wantL out l).length ∧ (l ≠ [] → out.length < (wantL out l).length) := by
  induction l with
  | nil => intro out _; simp [wantL]
  | cons t r ih =>
    intro out h
    have h1 := step_len out t h.1
    have h2 := (ih _ h.2).1
    show out.length ≤ (wantL (stepT out t) r).length ∧ (_ → out.length < (wantL (stepT out t) r).length)
    omega

/-- One token more. -/
theorem unp_step (b : List Int) (most : Int) (p : Nat) (out : List Int) (t : Tk) (suf : List Int) (hb : ∀ x ∈ b, 0 ≤ x ∧ x ≤ 255) (hd : b.drop p = formT t ++ suf) (ho : okT out t) (hm : ((stepT out t).length : Int) ≤ most) :
    unp b most p out = unp b most (p + (formT t).length) (stepT out t) := by
  obtain ⟨h1, h2, h3⟩ := ho
  by_cases hl : 0 < t.lit.length
  · rw [formT, if_pos hl] at hd ⊢
    rw [stepT, if_pos hl] at hm ⊢
    rw [List.append_assoc] at hd
    have hp := drop_len hd (putN_pos _)
    have hp2 := putN_pos (2 * t.lit.length)
    have ht := tok_lit b p out.length most t.lit suf hd hl (by omega) (by simp at hm; exact hm)
    have := unp_lit b most p out hb (by omega) (by rw [ht]) (by rw [ht])
    rw [this, ht]
    simp only [Int.toNat_natCast]
    rw [drop_app hd, List.take_left, show (((p + (putN (2 * t.lit.length)).length : Nat) : Int) + (t.lit.length : Int)).toNat = p + (putN (2 * t.lit.length) ++ t.lit).length from by rw [List.length_append]; omega]
  · rw [formT, if_neg hl] at hd ⊢
    rw [stepT, if_neg hl] at hm ⊢
    rw [cpy_length] at hm
    rw [List.append_assoc] at hd
    obtain ⟨c1, c2, c3, c4⟩ := h3 (by omega)
    have hp := drop_len hd (putN_pos _)
    have e1 : (2 * t.cnt + 1).toNat = 2 * t.cnt.toNat + 1 := by omega
    have hp2 := putN_pos (2 * t.cnt + 1).toNat
    rw [e1] at hd hp hp2 ⊢
    have ht := tok_cpy b p out.length most t.cnt.toNat t.dist.toNat suf hd (by omega) (by omega) (by omega) (by omega) (by omega) (by omega)
    have := unp_cpy b most p out hb (by omega) (by rw [ht]) (by rw [ht]; exact (by omega : ((t.dist.toNat : Nat) : Int) ≠ 0))
    rw [this, ht]
    simp only [Int.toNat_natCast]
    rw [List.length_append, Nat.add_assoc]

theorem unp_form (b : List Int) (most : Int) (hb : ∀ x ∈ b, 0 ≤ x ∧ x ≤ 255) (l : List Tk) : ∀ (p : Nat) (out : List Int), b.drop p = formL l → okL out l → ((wantL out l).length : Int) ≤ most → unp b most p out = (wantL out l, 0) := by
  induction l with
  | nil =>
    intro p out hd _ _
    have hl : b.length ≤ p := by have := congrArg List.length hd; simp [formL] at this; omega
    exact unp_end b most p out hl
  | cons t r ih =>
    intro p out hd ho hm
    have hd' : b.drop p = formT t ++ formL r := hd
    have hw := (want_len r _ ho.2).1
    have hm' : ((wantL (stepT out t) r).length : Int) ≤ most := hm
    rw [unp_step b most p out t _ hb hd' ho.1 (by omega)]
    exact ih _ _ (drop_app hd') ho.2 hm'

theorem unp_long (b : List Int) (most : Int) (hb : ∀ x ∈ b, 0 ≤ x ∧ x ≤ 255) (l : List Tk) : ∀ (p : Nat) (out : List Int), b.drop p = formL l → okL out l → (out.length : Int) ≤ most → most < ((wantL out l).length : Int) → unp b most p out = ([], 6) := by
  induction l with
  | nil => intro p out hd _ h1 h2; simp [wantL] at h2; omega
  | cons t r ih =>
    intro p out hd ho h1 h2
    have hd' : b.drop p = formT t ++ formL r := hd
    by_cases hm : ((stepT out t).length : Int) ≤ most
    · rw [unp_step b most p out t _ hb hd' ho.1 hm]
      exact ih _ _ (drop_app hd') ho.2 hm h2
    · obtain ⟨k1, k2, k3⟩ := ho.1
      have he : (tokOf b p out.length most).e = 6 ∧ p < b.length := by
        by_cases hl : 0 < t.lit.length
        · rw [formT, if_pos hl, List.append_assoc] at hd'
          rw [stepT, if_pos hl] at hm
          have := drop_len hd' (putN_pos _)
          have := putN_pos (2 * t.lit.length)
          exact ⟨tok_lit_long b p out.length most t.lit _ hd' hl (by omega) (by omega) (by simp at hm; omega), by omega⟩
        · rw [formT, if_neg hl, List.append_assoc] at hd'
          rw [stepT, if_neg hl, cpy_length] at hm
          obtain ⟨c1, c2, c3, c4⟩ := k3 (by omega)
          have := drop_len hd' (putN_pos _)
          have := putN_pos (2 * t.cnt + 1).toNat
          rw [show (2 * t.cnt + 1).toNat = 2 * t.cnt.toNat + 1 from by omega] at hd'
          exact ⟨tok_cpy_long b p out.length most t.cnt.toNat t.dist.toNat _ hd' (by omega) (by omega) (by omega) (by omega) (by omega) (by omega), by omega⟩
      rw [unp_err b most p out he.2 (by rw [he.1]; decide), he.1]

theorem okL_snoc (l : List Tk) : ∀ (out : List Int) (t : Tk), okL out l → okT (wantL out l) t → okL out (l ++ [t]) := by
  induction l with
  | nil => intro out t _ h; exact ⟨h, trivial⟩
  | cons x r ih => intro out t h h2; exact ⟨h.1, ih _ t h.2 h2⟩
theorem want_snoc (l : List Tk) (out : List Int) (t : Tk) : wantL out (l ++ [t]) = stepT (wantL out l) t := by simp [wantL]
theorem form_snoc (l : List Tk) (t : Tk) : formL (l ++ [t]) = formL l ++ formT t := by simp [formL]
theorem formT_len (out : List Int) (t : Tk) (h : okT out t) : (formT t).length ≤ 4100 := by
  obtain ⟨h1, h2, h3⟩ := h
  unfold formT
  split
  · have := putN_len (2 * t.lit.length) (by omega)
    rw [List.length_append]; omega
  · have := h3 (by omega)
    have a := putN_len (2 * t.cnt + 1).toNat (by omega)
    have b := putN_len t.dist.toNat (by omega)
    rw [List.length_append]; omega
theorem formL_len (l : List Tk) : ∀ (out : List Int), okL out l → (formL l).length ≤ 4100 * l.length := by
  induction l with
  | nil => intro out _; simp [formL]
  | cons t r ih =>
    intro out h
    have := formT_len out t h.1
    have := ih _ h.2
    show (formT t ++ formL r).length ≤ _
    rw [List.length_append, List.length_cons]; omega
theorem step_all (out : List Int) (t : Tk) (ho : ∀ x ∈ out, 0 ≤ x ∧ x ≤ 255) (ht : ∀ x ∈ t.lit, 0 ≤ x ∧ x ≤ 255) : ∀ x ∈ stepT out t, 0 ≤ x ∧ x ≤ 255 := by
  unfold stepT
  split
  · intro x hx
    rcases List.mem_append.1 hx with hx | hx
    · exact ho x hx
    · exact ht x hx
  · exact cpy_all out _ _ ho
theorem formL_all (l : List Tk) (h : ∀ t ∈ l, ∀ x ∈ t.lit, 0 ≤ x ∧ x ≤ 255) : ∀ x ∈ formL l, 0 ≤ x ∧ x ≤ 255 := by
  intro x hx
  obtain ⟨t, ht, hx⟩ := List.mem_flatMap.1 hx
  unfold formT at hx
  split at hx
  · rcases List.mem_append.1 hx with hx | hx
    · exact putN_all _ x hx
    · exact h t ht x hx
  · rcases List.mem_append.1 hx with hx | hx
    · exact putN_all _ x hx
    · exact putN_all _ x hx
end Go.Proofs.Ytbihkkaikcfilaa
