/- check of shares: the map of tenants. -/
import Derived.Test.YtdfnpknekjgkiaaD5
import Derived.Maps.OwnSet
import Derived.Maps.OwnOps
import Derived.Maps.Views
import Derived.Maps.Own
namespace Go.Proofs.Ytdfnpknekjgkiaa
open Go.RowKit Go.Maps
set_option linter.unusedVariables false
set_option linter.unusedSimpArgs false

def E0 : ByteArray := { data := #[] }
theorem size_zero {s : ByteArray} : s.size = 0 ↔ s = E0 := by
  constructor
  · intro h
    have : s.data = #[] := Array.eq_empty_of_size_eq_zero h
    cases s; simp only at this; rw [this]; rfl
  · rintro rfl; rfl
theorem ne_isEmpty {s : ByteArray} (h : s ≠ E0) : s.toList.isEmpty = false := by
  rw [ByteArray.toList_eq]
  cases hs : s.data.toList with
  | nil => exact absurd (size_zero.1 (by have h2 := congrArg List.length hs; simpa using h2)) h
  | cons a b => rfl
instance decMem (s : ByteArray) (l : List ByteArray) : Decidable (s ∈ l) := decidable_of_iff (l.any (fun x => decide (x = s)) = true) (by simp)
theorem law9 : Keyed Try.prog 9 := string_keyed Try.underlying9
def keyS (s : ByteArray) : Lit := .string s.data.toList
def seenD (pre : List ByteArray) : DataW Unit := pre.foldl (fun D x => D.put (keyS x) (.lit (.bool true))) (.map [])
theorem seenD_snoc (pre : List ByteArray) (x : ByteArray) : seenD (pre ++ [x]) = (seenD pre).put (keyS x) (.lit (.bool true)) := by simp [seenD]
theorem seenD_map (pre : List ByteArray) : IsMap (seenD pre) := by
  have : ∀ (l : List ByteArray) (D : DataW Unit), IsMap D → IsMap (l.foldl (fun D x => D.put (keyS x) (.lit (.bool true))) D) := by
    intro l
    induction l with
    | nil => intro D h; exact h
    | cons x r ih => intro D h; exact ih _ (IsMap.put h _ _)
  exact this pre _ isMap_empty
theorem keyS_inj {s t : ByteArray} (h : keyS s = keyS t) : s = t := by
  injection h with h
  exact Go.WideShapes.bytes_inj h
theorem seen_at (s : ByteArray) (pre : List ByteArray) : (s ∈ pre → (seenD pre).atKey (keyS s) (.lit (.bool false)) = .lit (.bool true)) ∧ (s ∉ pre → (seenD pre).atKey (keyS s) (.lit (.bool false)) = .lit (.bool false)) := by
  have H : ∀ n (p : List ByteArray), p.length = n → (s ∈ p → (seenD p).atKey (keyS s) (.lit (.bool false)) = .lit (.bool true)) ∧ (s ∉ p → (seenD p).atKey (keyS s) (.lit (.bool false)) = .lit (.bool false)) := by
    intro n
    induction n with
    | zero =>
      intro p hp
      obtain rfl := List.eq_nil_of_length_eq_zero hp
      exact ⟨(fun hx => by cases hx), fun _ => rfl⟩
    | succ n ih =>
      intro p hp
      have hne : p ≠ [] := by rintro rfl; simp at hp
      obtain ⟨q, x, rfl⟩ : ∃ q x, p = q ++ [x] := ⟨p.dropLast, p.getLast hne, (List.dropLast_concat_getLast hne).symm⟩
      have hq : q.length = n := by simpa using hp
      obtain ⟨h1, h2⟩ := ih q hq
      rw [seenD_snoc]
      by_cases e : x = s
      · rw [e]
        refine ⟨fun _ => atKey_put_same (seenD_map q) (show WideAt.IsKeyLit (keyS s) from trivial) _ _, fun hno => absurd (List.mem_append.2 (.inr (List.mem_singleton.2 rfl))) hno⟩
      · rw [atKey_put_other (fun h => e (keyS_inj h).symm)]
        refine ⟨fun hy => ?_, fun hno => h2 fun hy => hno (List.mem_append.2 (.inl hy))⟩
        rcases List.mem_append.1 hy with hy | hy
        · exact h1 hy
        · exact absurd (List.mem_singleton.1 hy).symm e
  exact H _ pre rfl
theorem plainElem_bool_inv {P : Program} {e : TypeId} (he : P.underlying e = some .bool) {v : Value} {z : DataW Unit × List MemPlace} (h : plainElem P e v = some z) : ∃ b, v = .bool b ∧ z = (.lit (.bool b), []) := by
  unfold plainElem at h
  rw [he] at h
  cases v <;> simp at h
  subst h
  exact ⟨_, rfl, rfl⟩
theorem seen_look {W : World} {B n : Nat} {pre : List ByteArray} (hown : W.ownsMap Try.prog 9 (plainElem Try.prog 4) B n (seenD pre)) (s : ByteArray) (hs : s.size ≤ maxLen) :
    (Instr.lookup 76 (.map (some B)) (.string s) false).run Try.prog W = .ok (.bool (decide (s ∈ pre))) W := by
  have hz : (zeroValue 4).run Try.prog W = .ok (.bool false) W := by kernel_rfl
  obtain ⟨v, ps, hrun, hv⟩ := hown.lookup law9 Try.underlying76 hz (plainElem_bool Try.underlying4 false) (WideMaps.keyOf_string_mk Try.underlying9 hs)
  obtain ⟨b, rfl, hb⟩ := plainElem_bool_inv Try.underlying4 hv
  simp only [Prod.mk.injEq] at hb
  obtain ⟨h1, h2⟩ := seen_at s pre
  by_cases h : s ∈ pre
  · have e := (h1 h).symm.trans hb.1
    injection e with e; injection e with e
    rw [decide_eq_true h, hrun, ← e]
  · have e := (h2 h).symm.trans hb.1
    injection e with e; injection e with e
    rw [decide_eq_false h, hrun, ← e]
/-- The error of shares, those before seen. -/
def ckGo : List ByteArray → Shares → Int
  | _, [] => 0
  | seen, s :: r => if s.1.size = 0 ∨ s.1.size > 24 then 8 else if s.2 < 1 ∨ s.2 > 1000 then 7 else if s.1 ∈ seen then 10 else ckGo (seen ++ [s.1]) r
def ckOf (l : Shares) : Int := if l.length > 64 then 6 else ckGo [] l
theorem ckOf_len {l : Shares} (h : ckOf l = 0) : l.length ≤ 64 := by
  unfold ckOf at h
  by_cases h2 : l.length > 64
  · rw [if_pos h2] at h; cases h
  · omega
theorem ckGo_w : ∀ (l : Shares) (seen : List ByteArray), ckGo seen l = 0 → ∀ s ∈ l, (1 ≤ s.2 ∧ s.2 ≤ 1000) ∧ 1 ≤ s.1.size ∧ s.1.size ≤ 24 ∧ s.1 ∉ seen
  | [], _, _, s, h => by cases h
  | t :: r, seen, h, s, hs => by
    rw [ckGo] at h
    by_cases h1 : t.1.size = 0 ∨ t.1.size > 24
    · rw [if_pos h1] at h; cases h
    rw [if_neg h1] at h
    by_cases h2 : t.2 < 1 ∨ t.2 > 1000
    · rw [if_pos h2] at h; cases h
    rw [if_neg h2] at h
    by_cases h3 : t.1 ∈ seen
    · rw [if_pos h3] at h; cases h
    rw [if_neg h3] at h
    rcases List.mem_cons.1 hs with rfl | hs
    · exact ⟨by omega, by omega, by omega, h3⟩
    · obtain ⟨a, b, c, d⟩ := ckGo_w r _ h s hs
      exact ⟨a, b, c, fun hm => d (List.mem_append.2 (.inl hm))⟩
theorem ckGo_ne : ∀ (l : Shares) (seen : List ByteArray), ckGo seen l = 0 → ∀ i k (hi : i < l.length) (hk : k < i), l[i].1 ≠ (l[k]'(by omega)).1
  | [], _, _, i, k, hi, _ => by simp at hi
  | t :: r, seen, h, i, k, hi, hk => by
    rw [ckGo] at h
    by_cases h1 : t.1.size = 0 ∨ t.1.size > 24
    · rw [if_pos h1] at h; cases h
    rw [if_neg h1] at h
    by_cases h2 : t.2 < 1 ∨ t.2 > 1000
    · rw [if_pos h2] at h; cases h
    rw [if_neg h2] at h
    by_cases h3 : t.1 ∈ seen
    · rw [if_pos h3] at h; cases h
    rw [if_neg h3] at h
    obtain ⟨i, rfl⟩ : ∃ m, i = m + 1 := ⟨i - 1, by omega⟩
    simp only [List.length_cons] at hi
    cases k with
    | zero =>
      have := (ckGo_w r _ h r[i] (List.getElem_mem _)).2.2.2
      simp only [List.getElem_cons_succ, List.getElem_cons_zero]
      exact fun e => this (List.mem_append.2 (.inr (by rw [e]; simp)))
    | succ k =>
      simp only [List.getElem_cons_succ]
      exact ckGo_ne r _ h i k (by omega) (by omega)
theorem ckOf_go {l : Shares} (h : ckOf l = 0) : ckGo [] l = 0 := by
  unfold ckOf at h
  by_cases h2 : l.length > 64
  · rw [if_pos h2] at h; cases h
  · rw [if_neg h2] at h; exact h
theorem ckOf_w {l : Shares} (h : ckOf l = 0) : ∀ s ∈ l, 1 ≤ s.2 ∧ s.2 ≤ 1000 := fun s hs => (ckGo_w l _ (ckOf_go h) s hs).1
theorem ckOf_ne {l : Shares} (h : ckOf l = 0) {i k : Nat} (hi : i < l.length) (hk : k < i) : l[i].1 ≠ (l[k]'(by omega)).1 := ckGo_ne l _ (ckOf_go h) i k hi hk
/-- Where check stands. -/
structure CkM (w : World) (l : Shares) (k : Nat) (wr : World) : Prop where
  own : wr.ownsMap Try.prog 9 (plainElem (H := Unit) Try.prog 4) w.heap.size k (seenD ((l.take k).map (fun s => s.1)))
  low : Below w.heap.size w wr
  eq : ckGo [] l = ckGo ((l.take k).map (fun s => s.1)) (l.drop k)
theorem CkM.start (w : World) (l : Shares) : CkM w l 0 (w.alloc (.map #[] 0)) := ⟨World.ownsMap_made (H := Unit) w Try.prog 9 (plainElem Try.prog 4), below_alloc (Below.refl _ _) _, rfl⟩
theorem ckGo_at {l : Shares} {k : Nat} (h : k < l.length) : ckGo ((l.take k).map (fun s => s.1)) (l.drop k) = if l[k].1.size = 0 ∨ l[k].1.size > 24 then 8 else if l[k].2 < 1 ∨ l[k].2 > 1000 then 7 else if l[k].1 ∈ (l.take k).map (fun s => s.1) then 10 else ckGo ((l.take (k + 1)).map (fun s => s.1)) (l.drop (k + 1)) := by
  rw [List.drop_eq_getElem_cons h, ckGo, List.take_succ_eq_append_getElem h, List.map_append]
  rfl
set_option maxRecDepth 100000 in
set_option maxHeartbeats 4000000 in
theorem check_any (l : Shares) (a : Option Addr) (c : Nat) (w : World) (hx : Shs w a l) (hc : l.length ≤ c) (hlm : l.length ≤ 1000000) :
    Calls Try.prog 25 #[.slice a l.length c] w fun e w' => e = .returned (.int .i64 (ckOf l)) ∧ Below w.heap.size w w' := by
  by_cases hl : l.length > 64
  · have HV := Lib.hid (show ckOf l = 6 by rw [ckOf, if_pos hl])
    have d1 : decide ((l.length : Int) > 64) = true := decide_eq_true (by omega)
    clear hl hx
    go_enter Try.func25, Try.ntmps25
    go_wp2
    go_ret
    exact ⟨by rw [HV.out]; rfl, Below.refl _ _⟩
  have HV := Lib.hid (show ckOf l = ckGo [] l by rw [ckOf, if_neg hl])
  have d1 : decide ((l.length : Int) > 64) = false := decide_eq_false (by omega)
  have hmm := @run_makeMap Try.prog
  have HS := Lib.hid (CkM.start w l)
  have hl64 : l.length ≤ 64 := by omega
  clear hl
  go_enter Try.func25, Try.ntmps25
  go_wp2
  go_loopw [12] (fun i wr => ∃ k : Nat, i = .int .i64 k ∧ k ≤ l.length ∧ Hid (CkM w l k wr)) (fun i _ => l.length - (intOf i).toNat)
  case atStart => exact ⟨0, rfl, by omega, HS⟩
  case round =>
    obtain ⟨k, rfl, hk, HM⟩ := hrel
    by_cases h : k < l.length
    · obtain ⟨x, rfl, h1, h2⟩ := (hx.below HM.out.low).at h
      have hat := HM.out.eq.trans (ckGo_at h)
      generalize hpre : (l.take k).map (fun s => s.1) = pre at *
      have HPR := Lib.hid hpre
      have hsn : (l.take (k + 1)).map (fun s => s.1) = pre ++ [l[k].1] := by rw [List.take_succ_eq_append_getElem h, List.map_append, hpre]; rfl
      obtain ⟨hown, hlow, heq⟩ := HM.out
      rw [hpre] at hown
      have hown1 := hown.alloc (.cells #[.string l[k].1, .int .i64 l[k].2] 56)
      have HL1 := Lib.hid (below_alloc hlow (.cells #[.string l[k].1, .int .i64 l[k].2] 56))
      have q0 : (k : Int) < (l.length : Int) := by omega
      generalize hs : l[k] = s at *
      obtain ⟨t, wt⟩ := s
      simp only at *
      by_cases ht : t.size = 0 ∨ t.size > 24
      · rw [if_pos ht] at hat
        have HA := Lib.hid (HV.out.trans hat)
        by_cases he : t = E0
        · subst he
          unfold E0 at *
          clear hat heq hown hown1 HM hpre hsn hs hlow ht HPR
          go_wp2
          go_ret
          exact ⟨by rw [HA.out]; rfl, HL1.out⟩
        · have q1 := ne_isEmpty he
          have q2 : decide ((t.size : Int) > 24) = true := decide_eq_true (by
            rcases ht with h | h
            · exact absurd (size_zero.1 h) he
            · omega)
          clear hat heq hown hown1 HM hpre hsn hs hlow ht he HPR
          go_wp2
          go_ret
          exact ⟨by rw [HA.out]; rfl, HL1.out⟩
      rw [if_neg ht] at hat
      have q1 : t.toList.isEmpty = false := ne_isEmpty (fun e => ht (.inl (size_zero.2 e)))
      have q2 : decide ((t.size : Int) > 24) = false := decide_eq_false (by omega)
      have htl : t.size ≤ maxLen := by unfold maxLen; omega
      by_cases hw : wt < 1 ∨ wt > 1000
      · rw [if_pos hw] at hat
        have HA := Lib.hid (HV.out.trans hat)
        by_cases hw1 : wt < 1
        · have q3 : decide (wt < 1) = true := decide_eq_true hw1
          clear hat heq hown hown1 HM hpre hsn hs hlow ht hw hw1 htl HPR
          go_wp2
          go_ret
          exact ⟨by rw [HA.out]; rfl, HL1.out⟩
        · have q3 : decide (wt < 1) = false := decide_eq_false hw1
          have q4 : decide (wt > 1000) = true := decide_eq_true (by omega)
          clear hat heq hown hown1 HM hpre hsn hs hlow ht hw hw1 htl HPR
          go_wp2
          go_ret
          exact ⟨by rw [HA.out]; rfl, HL1.out⟩
      rw [if_neg hw] at hat
      have q3 : decide (wt < 1) = false := decide_eq_false (by omega)
      have q4 : decide (wt > 1000) = false := decide_eq_false (by omega)
      have L := seen_look hown1 t htl
      by_cases hm : t ∈ pre
      · rw [if_pos hm] at hat
        rw [decide_eq_true hm] at L
        have HA := Lib.hid (HV.out.trans hat)
        clear hat heq hown hown1 HM hpre hsn hs hlow ht hw htl hm HPR
        go_wp2
        go_ret
        exact ⟨by rw [HA.out]; rfl, HL1.out⟩
      · rw [if_neg hm] at hat
        rw [decide_eq_false hm] at L
        have HA := Lib.hid hat
        have HSN := Lib.hid hsn
        have hkey := WideMaps.keyOf_string_mk Try.underlying9 htl
        clear hat heq hown HM hpre hsn hs hlow ht hw htl hm HPR
        go_wp2_with (at_mapUpdate; refine wpList_mapUpdate_own _ rfl _ _ _ 76 rfl 9 4 law9 Try.underlying76 _ w.heap.size k _ rfl hown1 (by unfold maxLen; omega) _ _ _ rfl rfl hkey _ [] (plainElem_bool Try.underlying4 true) ?_)
        intro w1 hown2 hgrow2
        have HN : Hid (CkM w l (k + 1) w1) := Lib.hid ⟨by rw [HSN.out, seenD_snoc]; exact hown2, HL1.out.grown hgrow2 HL1.out.size (fun k e => by cases e; exact Nat.le_refl _), HA.out⟩
        clear hown1 hown2 hgrow2 L
        go_wp2
        go_roundw
        case rel => exact ⟨k + 1, by go_num, by omega, HN⟩
        case measure => simp [intOf]; omega
    · have HA : Hid (ckOf l = 0) := Lib.hid (by rw [HV.out, HM.out.eq, List.drop_eq_nil_of_le (by omega)]; rfl)
      have q0 : decide ((k : Int) < (l.length : Int)) = false := decide_eq_false (by omega)
      go_wp2
      go_ret
      exact ⟨by rw [HA.out]; rfl, HM.out.low⟩
end Go.Proofs.Ytdfnpknekjgkiaa
