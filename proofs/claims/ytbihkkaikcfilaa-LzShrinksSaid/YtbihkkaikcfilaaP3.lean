/- Pack's plain law: its tokens stand for the bytes; how long they are. -/
import Derived.Test.YtbihkkaikcfilaaK4
namespace Go.Proofs.Ytbihkkaikcfilaa
open Go
set_option linter.unusedVariables false
set_option linter.unusedSimpArgs false

def okTX (out : List Int) (t : Tk) : Prop := t.lit.length ≤ 200000 ∧ out.length ≤ 200000 ∧ (t.lit.length = 0 → 1 ≤ t.cnt ∧ t.cnt ≤ 200000 ∧ 1 ≤ t.dist ∧ t.dist ≤ out.length)
def okLX : List Int → List Tk → Prop
  | _, [] => True
  | out, t :: r => okTX out t ∧ okLX (stepT out t) r
theorem step_lenX (out : List Int) (t : Tk) (h : okTX out t) : out.length < (stepT out t).length ∧ (stepT out t).length ≤ out.length + 200000 := by
  obtain ⟨h1, h2, h3⟩ := h
  unfold stepT
  split
  · simp; omega
  · have := h3 (by omega)
    rw [cpy_length]; omega
theorem want_lenX (l : List Tk) : ∀ (out : List Int), okLX out l → out.length ≤ (wantL out l).length ∧ (l ≠ [] → out.length < (wantL out l).length) := by
  induction l with
  | nil => intro out _; simp [wantL]
  | cons t r ih =>
    intro out h
    have h1 := step_lenX out t h.1
    have h2 := (ih _ h.2).1
    show out.length ≤ (wantL (stepT out t) r).length ∧ (_ → out.length < (wantL (stepT out t) r).length)
    omega

/-- One token more. -/
theorem unp_stepX (b : List Int) (most : Int) (p : Nat) (out : List Int) (t : Tk) (suf : List Int) (hb : ∀ x ∈ b, 0 ≤ x ∧ x ≤ 255) (hd : b.drop p = formT t ++ suf) (ho : okTX out t) (hm : ((stepT out t).length : Int) ≤ most) :
    unp b most p out = unp b most (p + (formT t).length) (stepT out t) := by
  obtain ⟨h1, h2, h3⟩ := ho
  by_cases hl : 0 < t.lit.length
  · rw [formT, if_pos hl] at hd ⊢
    rw [stepT, if_pos hl] at hm ⊢
    rw [List.append_assoc] at hd
    have hp := drop_len hd (putN_pos _)
    have hp2 := putN_pos (2 * t.lit.length)
    have ht := tok_lit b p out.length most t.lit suf hd hl (by omega) (by simp at hm; exact hm)
    have := unp_lit b most p out hb (by omega) (by rw [ht]) (by rw [ht])
    rw [this, ht]
    simp only [Int.toNat_natCast]
    rw [drop_app hd, List.take_left, show (((p + (putN (2 * t.lit.length)).length : Nat) : Int) + (t.lit.length : Int)).toNat = p + (putN (2 * t.lit.length) ++ t.lit).length from by rw [List.length_append]; omega]
  · rw [formT, if_neg hl] at hd ⊢
    rw [stepT, if_neg hl] at hm ⊢
    rw [cpy_length] at hm
    rw [List.append_assoc] at hd
    obtain ⟨c1, c2, c3, c4⟩ := h3 (by omega)
    have hp := drop_len hd (putN_pos _)
    have e1 : (2 * t.cnt + 1).toNat = 2 * t.cnt.toNat + 1 := by omega
    have hp2 := putN_pos (2 * t.cnt + 1).toNat
    rw [e1] at hd hp hp2 ⊢
    have ht := tok_cpy b p out.length most t.cnt.toNat t.dist.toNat suf hd (by omega) (by omega) (by omega) (by omega) (by omega) (by omega)
    have := unp_cpy b most p out hb (by omega) (by rw [ht]) (by rw [ht]; exact (by omega : ((t.dist.toNat : Nat) : Int) ≠ 0))
    rw [this, ht]
    simp only [Int.toNat_natCast]
    rw [List.length_append, Nat.add_assoc]

theorem unp_formX (b : List Int) (most : Int) (hb : ∀ x ∈ b, 0 ≤ x ∧ x ≤ 255) (l : List Tk) : ∀ (p : Nat) (out : List Int), b.drop p = formL l → okLX out l → ((wantL out l).length : Int) ≤ most → unp b most p out = (wantL out l, 0) := by
  induction l with
  | nil =>
    intro p out hd _ _
    have hl : b.length ≤ p := by have := congrArg List.length hd; simp [formL] at this; omega
    exact unp_end b most p out hl
  | cons t r ih =>
    intro p out hd ho hm
    have hd' : b.drop p = formT t ++ formL r := hd
    have hw := (want_lenX r _ ho.2).1
    have hm' : ((wantL (stepT out t) r).length : Int) ≤ most := hm
    rw [unp_stepX b most p out t _ hb hd' ho.1 (by omega)]
    exact ih _ _ (drop_app hd') ho.2 hm'

theorem unp_longX (b : List Int) (most : Int) (hb : ∀ x ∈ b, 0 ≤ x ∧ x ≤ 255) (l : List Tk) : ∀ (p : Nat) (out : List Int), b.drop p = formL l → okLX out l → (out.length : Int) ≤ most → most < ((wantL out l).length : Int) → unp b most p out = ([], 6) := by
  induction l with
  | nil => intro p out hd _ h1 h2; simp [wantL] at h2; omega
  | cons t r ih =>
    intro p out hd ho h1 h2
    have hd' : b.drop p = formT t ++ formL r := hd
    by_cases hm : ((stepT out t).length : Int) ≤ most
    · rw [unp_stepX b most p out t _ hb hd' ho.1 hm]
      exact ih _ _ (drop_app hd') ho.2 hm h2
    · obtain ⟨k1, k2, k3⟩ := ho.1
      have he : (tokOf b p out.length most).e = 6 ∧ p < b.length := by
        by_cases hl : 0 < t.lit.length
        · rw [formT, if_pos hl, List.append_assoc] at hd'
          rw [stepT, if_pos hl] at hm
          have := drop_len hd' (putN_pos _)
          have := putN_pos (2 * t.lit.length)
          exact ⟨tok_lit_long b p out.length most t.lit _ hd' hl (by omega) (by omega) (by simp at hm; omega), by omega⟩
        · rw [formT, if_neg hl, List.append_assoc] at hd'
          rw [stepT, if_neg hl, cpy_length] at hm
          obtain ⟨c1, c2, c3, c4⟩ := k3 (by omega)
          have := drop_len hd' (putN_pos _)
          have := putN_pos (2 * t.cnt + 1).toNat
          rw [show (2 * t.cnt + 1).toNat = 2 * t.cnt.toNat + 1 from by omega] at hd'
          exact ⟨tok_cpy_long b p out.length most t.cnt.toNat t.dist.toNat _ hd' (by omega) (by omega) (by omega) (by omega) (by omega) (by omega), by omega⟩
      rw [unp_err b most p out he.2 (by rw [he.1]; decide), he.1]

theorem okL_snocX (l : List Tk) : ∀ (out : List Int) (t : Tk), okLX out l → okTX (wantL out l) t → okLX out (l ++ [t]) := by
  induction l with
  | nil => intro out t _ h; exact ⟨h, trivial⟩
  | cons x r ih => intro out t h h2; exact ⟨h.1, ih _ t h.2 h2⟩

/-- Whatever stands so far back is the same. -/
structure Per (u : Nat) (xs : List Int) : Prop where
  u1 : 1 ≤ u
  u2 : u ≤ 32
  u3 : u ≤ xs.length
  per : ∀ i, i + u < xs.length → xs.getD (i + u) 0 = xs.getD i 0
theorem Per.com {u p : Nat} {xs : List Int} (h : Per u xs) (hu : u ≤ p) (hp : p ≤ xs.length) : Com xs (p - u) p (xs.length - p) :=
  ⟨by omega, fun i hi => by
    have := h.per (p - u + i) (by omega)
    rw [show p - u + i + u = p + i from by omega] at this
    exact this.symm, fun h => by omega⟩
structure PackI (xs : List Int) (ts : List Tk) (start at_ : Nat) : Prop where
  ok : okLX [] ts
  want : wantL [] ts = xs.take start
  sa : start ≤ at_
  al : at_ ≤ xs.length
  len : (formL ts).length ≤ start
  sh : ∀ u, Per u xs → u ≤ at_ → (formL ts).length + (at_ - start) ≤ u + 8 + (12 - (xs.length - at_))
  all : (∀ x ∈ xs, 0 ≤ x ∧ x ≤ 255) → ∀ x ∈ formL ts, 0 ≤ x ∧ x ≤ 255
def litTok (xs : List Int) (start e : Nat) : List Tk := if start < e then [⟨(xs.drop start).take (e - start), 0, 0⟩] else []
def copTok (n d : Nat) : List Tk := if 0 < n then [⟨[], n, d⟩] else []
theorem form_app (l m : List Tk) : formL (l ++ m) = formL l ++ formL m := by simp [formL]
theorem want_app (out : List Int) (l m : List Tk) : wantL out (l ++ m) = wantL (wantL out l) m := by simp [wantL]
theorem okL_appX (l m : List Tk) : ∀ (out : List Int), okLX out l → okLX (wantL out l) m → okLX out (l ++ m) := by
  induction l with
  | nil => intro out _ h; exact h
  | cons t r ih => intro out h h2; exact ⟨h.1, ih _ h.2 h2⟩
theorem form_lit {xs : List Int} {start e : Nat} (he : e ≤ xs.length) : formL (litTok xs start e) = litOf xs start e := by
  unfold litTok litOf
  by_cases h : start < e
  · have hl : ((xs.drop start).take (e - start)).length = e - start := by rw [List.length_take, List.length_drop]; omega
    rw [if_pos h, if_pos h]
    simp only [formL, List.flatMap_cons, List.flatMap_nil, List.append_nil]
    unfold formT
    rw [if_pos (by show 0 < ((xs.drop start).take (e - start)).length; omega)]
    show putN (2 * ((xs.drop start).take (e - start)).length) ++ _ = _
    rw [hl]
  · rw [if_neg h, if_neg h]; rfl
theorem form_cop (n d : Nat) : formL (copTok n d) = copOf n d := by
  unfold copTok copOf
  by_cases h : 0 < n
  · rw [if_pos h, if_pos h]
    simp only [formL, List.flatMap_cons, List.flatMap_nil, List.append_nil]
    unfold formT
    rw [if_neg (by simp)]
    show putN (2 * (n : Int) + 1).toNat ++ putN ((d : Int)).toNat = _
    rw [show (2 * (n : Int) + 1).toNat = 2 * n + 1 from by omega, Int.toNat_natCast]
  · rw [if_neg h, if_neg h]; rfl
theorem take_mid {xs : List Int} {a b : Nat} (h : a ≤ b) : xs.take a ++ (xs.drop a).take (b - a) = xs.take b := by
  rw [← List.take_add]; congr 1; omega
theorem want_lit {xs : List Int} {start e : Nat} (h1 : start ≤ e) (he : e ≤ xs.length) : wantL (xs.take start) (litTok xs start e) = xs.take e := by
  unfold litTok
  by_cases h : start < e
  · rw [if_pos h]
    have hl : ((xs.drop start).take (e - start)).length = e - start := by rw [List.length_take, List.length_drop]; omega
    show stepT (xs.take start) _ = _
    unfold stepT
    rw [if_pos (by show 0 < ((xs.drop start).take (e - start)).length; omega)]
    exact take_mid h1
  · rw [if_neg h]
    have : start = e := by omega
    rw [this]; rfl
theorem ok_lit {xs : List Int} {start e : Nat} (h1 : start ≤ e) (he : e ≤ xs.length) (hl : xs.length ≤ 200000) : okLX (xs.take start) (litTok xs start e) := by
  unfold litTok
  by_cases h : start < e
  · rw [if_pos h]
    have hl2 : ((xs.drop start).take (e - start)).length = e - start := by rw [List.length_take, List.length_drop]; omega
    refine ⟨⟨by show ((xs.drop start).take (e - start)).length ≤ _; omega, by rw [List.length_take]; omega, fun h0 => ?_⟩, trivial⟩
    have : ((xs.drop start).take (e - start)).length = 0 := h0
    omega
  · rw [if_neg h]; exact trivial
theorem lit_len {xs : List Int} {start e : Nat} (he : e ≤ xs.length) (hl : xs.length ≤ 200000) : (litOf xs start e).length ≤ 3 + (e - start) ∧ (e ≤ start → (litOf xs start e).length = 0) := by
  unfold litOf
  by_cases h : start < e
  · rw [if_pos h]
    have := putN_len (2 * (e - start)) (by omega)
    rw [List.length_append, List.length_take, List.length_drop]; omega
  · rw [if_neg h]; simp
theorem cop_len {n d : Nat} (hn : n ≤ 200000) (hd : d ≤ 200000) : (copOf n d).length ≤ 6 := by
  unfold copOf
  by_cases h : 0 < n
  · rw [if_pos h]
    have := putN_len (2 * n + 1) (by omega)
    have := putN_len d (by omega)
    rw [List.length_append]; omega
  · rw [if_neg h]; simp
theorem cpy_take (xs : List Int) (p d : Nat) (hd : 1 ≤ d) (hdp : d ≤ p) : ∀ n, p + n ≤ xs.length → (∀ i, i < n → xs.getD (p - d + i) 0 = xs.getD (p + i) 0) → cpy (xs.take p) d n = xs.take (p + n) := by
  intro n
  induction n with
  | zero => intro _ _; rfl
  | succ n ih =>
    intro hn he
    have h1 := ih (by omega) (fun i hi => he i (by omega))
    show cpy (xs.take p) d n ++ [(cpy (xs.take p) d n).getD ((cpy (xs.take p) d n).length - d) 0] = _
    rw [h1]
    have hl : (xs.take (p + n)).length = p + n := by rw [List.length_take]; omega
    rw [hl]
    have h2 : (xs.take (p + n)).getD (p + n - d) 0 = xs.getD (p + n - d) 0 := by
      have a1 : p + n - d < p + n := by omega
      have a2 : p + n - d < xs.length := by omega
      simp [List.getD_eq_getElem?_getD, List.getElem?_take, a1]
    rw [h2]
    have h3 := he n (by omega)
    rw [show p - d + n = p + n - d from by omega] at h3
    rw [h3, show p + (n + 1) = (p + n) + 1 from by omega, List.take_succ_eq_append_getElem (by omega)]
    congr 2
    have a3 : p + n < xs.length := by omega
    simp [List.getD_eq_getElem?_getD, a3]
theorem want_cop {xs : List Int} {p n d : Nat} (hn : 0 < n) (hd : 1 ≤ d) (hdp : d ≤ p) (hp : p + n ≤ xs.length) (he : ∀ i, i < n → xs.getD (p - d + i) 0 = xs.getD (p + i) 0) : wantL (xs.take p) (copTok n d) = xs.take (p + n) := by
  unfold copTok
  rw [if_pos hn]
  simp only [wantL, List.foldl_cons, List.foldl_nil]
  unfold stepT
  rw [if_neg (by simp)]
  show cpy (xs.take p) ((d : Int)).toNat ((n : Int)).toNat = _
  rw [Int.toNat_natCast, Int.toNat_natCast]
  exact cpy_take xs p d hd hdp n hp he

theorem lit_all {xs : List Int} (start e : Nat) (h : ∀ x ∈ xs, 0 ≤ x ∧ x ≤ 255) : ∀ x ∈ litOf xs start e, 0 ≤ x ∧ x ≤ 255 := by
  unfold litOf
  split
  · intro x hx
    rcases List.mem_append.1 hx with hx | hx
    · exact putN_all _ x hx
    · exact h x (List.mem_of_mem_drop (List.mem_of_mem_take hx))
  · intro x hx; cases hx
theorem cop_all (n d : Nat) : ∀ x ∈ copOf n d, 0 ≤ x ∧ x ≤ 255 := by
  unfold copOf
  split
  · intro x hx
    rcases List.mem_append.1 hx with hx | hx
    · exact putN_all _ x hx
    · exact putN_all _ x hx
  · intro x hx; cases hx
theorem app_all {a b : List Int} (h1 : ∀ x ∈ a, 0 ≤ x ∧ x ≤ 255) (h2 : ∀ x ∈ b, 0 ≤ x ∧ x ≤ 255) : ∀ x ∈ a ++ b, 0 ≤ x ∧ x ≤ 255 := fun x hx => by
  rcases List.mem_append.1 hx with hx | hx
  · exact h1 x hx
  · exact h2 x hx
theorem pack_start (xs : List Int) : PackI xs [] 0 0 := ⟨trivial, by simp [wantL], Nat.le_refl _, Nat.zero_le _, by simp [formL], (fun u h hu => by have := h.u1; omega), fun _ x hx => by simp [formL] at hx⟩
theorem pack_skip {xs : List Int} {ts : List Tk} {start p n : Nat} (h : PackI xs ts start p) (hp : p < xs.length) (hn : n < 12) (hm : ∀ u k, 1 ≤ u → u ≤ 32 → u ≤ p → Com xs (p - u) p k → k ≤ n) : PackI xs ts start (p + 1) := by
  obtain ⟨h1, h2, h3, h4, h5, h6, h7⟩ := h
  refine ⟨h1, h2, by omega, by omega, h5, fun u hu hup => ?_, h7⟩
  by_cases hc : u ≤ p
  · have := h6 u hu hc
    have := hm u _ hu.u1 hu.u2 hc (hu.com hc h4)
    omega
  · omega
theorem pack_copy {xs : List Int} {ts : List Tk} {start p n d : Nat} (h : PackI xs ts start p) (hl : xs.length ≤ 200000) (hn : 12 ≤ n) (hd : 1 ≤ d) (hdp : d ≤ p) (hp : p + n ≤ xs.length) (he : ∀ i, i < n → xs.getD (p - d + i) 0 = xs.getD (p + i) 0)
    (hm : ∀ u k, 1 ≤ u → u ≤ 32 → u ≤ p → Com xs (p - u) p k → k ≤ n) : PackI xs (ts ++ litTok xs start p ++ copTok n d) (p + n) (p + n) ∧ formL (ts ++ litTok xs start p ++ copTok n d) = formL ts ++ litOf xs start p ++ copOf n d := by
  obtain ⟨h1, h2, h3, h4, h5, h6, h7⟩ := h
  have hf : formL (ts ++ litTok xs start p ++ copTok n d) = formL ts ++ litOf xs start p ++ copOf n d := by rw [form_app, form_app, form_lit h4, form_cop]
  have w1 : wantL [] (ts ++ litTok xs start p) = xs.take p := by rw [want_app, h2, want_lit h3 h4]
  have l1 := (lit_len (start := start) h4 hl).1
  have l2 := cop_len (n := n) (d := d) (by omega) (by omega)
  have l3 : (formL ts ++ litOf xs start p ++ copOf n d).length ≤ (formL ts).length + (p - start) + 9 := by rw [List.length_append, List.length_append]; omega
  refine ⟨⟨okL_appX _ _ _ (okL_appX _ _ _ h1 (by rw [h2]; exact ok_lit h3 h4 hl)) (by
    rw [w1]; unfold copTok; rw [if_pos (by omega)]
    exact ⟨⟨by show (0 : Nat) ≤ _; omega, by rw [List.length_take]; omega, fun _ => ⟨by show (1 : Int) ≤ (n : Int); omega, by show (n : Int) ≤ _; omega, by show (1 : Int) ≤ (d : Int); omega, by show (d : Int) ≤ _; rw [List.length_take]; omega⟩⟩, trivial⟩), ?_, Nat.le_refl _, by omega, by rw [hf]; omega, fun u hu hup => ?_, fun hx => by rw [hf]; exact app_all (app_all (h7 hx) (lit_all _ _ hx)) (cop_all _ _)⟩, hf⟩
  · rw [want_app, w1, want_cop (by omega) hd hdp hp he]
  · rw [hf]
    by_cases hc : u ≤ p
    · have := h6 u hu hc
      have := hm u _ hu.u1 hu.u2 hc (hu.com hc h4)
      omega
    · omega
/-- What Pack returns. -/
structure PackR (xs p : List Int) : Prop where
  toks : ∃ ts, p = formL ts ∧ okLX [] ts ∧ wantL [] ts = xs
  len : p.length ≤ xs.length + 3
  nil : xs = [] → p = []
  sh : ∀ u, Per u xs → p.length ≤ u + 23
  all : (∀ x ∈ xs, 0 ≤ x ∧ x ≤ 255) → ∀ x ∈ p, 0 ≤ x ∧ x ≤ 255
theorem pack_end {xs : List Int} {ts : List Tk} {start : Nat} (h : PackI xs ts start xs.length) (hl : xs.length ≤ 200000) : PackR xs (formL ts ++ litOf xs start xs.length ++ copOf 0 0) := by
  obtain ⟨h1, h2, h3, h4, h5, h6, h7⟩ := h
  have hc : copOf 0 0 = [] := rfl
  rw [hc, List.append_nil]
  have l1 := lit_len (start := start) h4 hl
  refine ⟨⟨ts ++ litTok xs start xs.length, by rw [form_app, form_lit h4], okL_appX _ _ _ h1 (by rw [h2]; exact ok_lit h3 h4 hl), by rw [want_app, h2, want_lit h3 h4, List.take_length]⟩, by rw [List.length_append]; omega, fun e => ?_, fun u hu => ?_, fun hx => app_all (h7 hx) (lit_all _ _ hx)⟩
  · subst e
    have : start = 0 := by simp at h3; exact h3
    subst this
    apply List.eq_nil_of_length_eq_zero
    rw [List.length_append, l1.2 (by simp)]; omega
  · have := h6 u hu hu.u3
    rw [List.length_append]; omega
theorem pack_unp {xs p : List Int} (h : PackR xs p) (hx : ∀ x ∈ xs, 0 ≤ x ∧ x ≤ 255) (most : Int) (hm : (xs.length : Int) ≤ most) : unp p most 0 [] = (xs, 0) := by
  have hb := h.all hx
  obtain ⟨ts, rfl, h1, h2⟩ := h.toks
  have := unp_formX (formL ts) most hb ts 0 [] rfl h1 (by rw [h2]; exact hm)
  rw [h2] at this; exact this
end Go.Proofs.Ytbihkkaikcfilaa
