/- queue and defined: requests and shares that the law makes. -/
import Derived.Test.YtdfnpknekjgkiaaD14
namespace Go.Proofs.Ytdfnpknekjgkiaa
open Go.RowKit
set_option linter.unusedVariables false
set_option linter.unusedSimpArgs false

def rqFlat (k : Nat) (t : ByteArray) : List Value := [.int .i64 (k + 1), .string t, .string AS, .int .i64 0, .int .i64 1, .int .i64 k, .int .i64 1099511627776]
def rqAll : Nat → List ByteArray → List Value
  | _, [] => []
  | k, t :: r => rqFlat k t ++ rqAll (k + 1) r
theorem rqAll_len : ∀ (ts : List ByteArray) (k : Nat), (rqAll k ts).length = ts.length * 7
  | [], _ => rfl
  | t :: r, k => by rw [rqAll, List.length_append, rqAll_len r]; simp [rqFlat]; omega
theorem rqAll_snoc : ∀ (ts : List ByteArray) (k : Nat) (t : ByteArray), rqAll k (ts ++ [t]) = rqAll k ts ++ rqFlat (k + ts.length) t
  | [], k, t => by simp [rqAll]
  | u :: r, k, t => by
    rw [List.cons_append, rqAll, rqAll, rqAll_snoc r, List.append_assoc]
    rw [show k + 1 + r.length = k + (u :: r).length by simp; omega]
theorem rqAll_at : ∀ (ts : List ByteArray) (k0 k j : Nat) (t : ByteArray), ts[k]? = some t → j < 7 → (rqAll k0 ts)[k * 7 + j]? = (rqFlat (k0 + k) t)[j]?
  | [], _, k, j, t, h, _ => by simp at h
  | u :: r, k0, 0, j, t, h, hj => by
    simp at h
    subst h
    rw [rqAll, List.getElem?_append_left (by simp [rqFlat]; omega)]
    simp
  | u :: r, k0, k + 1, j, t, h, hj => by
    simp at h
    rw [rqAll, List.getElem?_append_right (by simp [rqFlat]; omega)]
    rw [show (k + 1) * 7 + j - (rqFlat k0 u).length = k * 7 + j by simp [rqFlat]; omega]
    rw [rqAll_at r (k0 + 1) k j t h hj, show k0 + 1 + k = k0 + (k + 1) by omega]
theorem rqs_own {w : World} {base : Nat} {v : Value} {ts : List ByteArray} (h : w.ownsRow base 54 7 v ts.length (rqAll 0 ts)) : ∃ a c, v = .slice a ts.length c ∧ Rqs w a ts ∧ ts.length ≤ c := by
  have h0 := h
  rcases h.2 with ⟨rfl, h1⟩ | ⟨g, c, cur, rfl, _, _, hc, _⟩
  · have : ts = [] := List.eq_nil_of_length_eq_zero h1
    subst this
    exact ⟨none, 0, rfl, .inl rfl, Nat.le_refl _⟩
  · refine ⟨some ⟨g, 0, none⟩, c, rfl, .inr ⟨_, rfl, fun k t hk => ?_⟩, hc⟩
    have e : ∀ j v, j < 7 → (rqFlat k t)[j]? = some v → w.cell? ⟨g, k * 7 + j, none⟩ = some v := fun j v hj hv => by
      have := World.ownsRow.cells (g := g) h0 rfl (k * 7 + j) v (by rw [rqAll_at ts 0 k j t hk hj, Nat.zero_add]; exact hv)
      rw [add_at] at this; exact this
    rw [add_at]
    exact ⟨e 0 _ (by omega) rfl, e 1 _ (by omega) rfl, e 2 _ (by omega) rfl, e 3 _ (by omega) rfl, e 4 _ (by omega) rfl, e 5 _ (by omega) rfl, e 6 _ (by omega) rfl⟩
theorem info54 : (Try.prog.info? 54).map (fun i => (i.size, i.bytes, i.zero.map (fun z => z.cells.size))) = some (7, 72, some 7) := by kernel_rfl
theorem parts54 : ∃ i z, Try.prog.info? 54 = some i ∧ i.zero = some z ∧ i.size = 7 ∧ i.bytes = 72 ∧ z.cells.size = 7 := by
  have h := info54
  cases hi : Try.prog.info? 54 with
  | none => rw [hi] at h; cases h
  | some i =>
    rw [hi] at h
    simp only [Option.map_some, Option.some.injEq, Prod.mk.injEq] at h
    obtain ⟨h1, h2, h3⟩ := h
    cases hz : i.zero with
    | none => rw [hz] at h3; cases h3
    | some z =>
      rw [hz] at h3
      exact ⟨i, z, rfl, hz, h1, h2, by simpa using h3⟩
/-- Where queue stands. -/
structure QuM (w : World) (asks : Shares) (k : Nat) (vq vc : Value) (wr : World) : Prop where
  q : wr.ownsRow w.heap.size 54 7 vq k (rqAll 0 ((asks.take k).map (fun s => s.1)))
  c : wr.ownsRow w.heap.size 3 1 vc k (((asks.take k).map (fun s => s.2)).map (Value.int .i64))
  low : Below w.heap.size w wr
/-- What queue returns. -/
def QueueR (asks : Shares) (w : World) (e : Ending) (w' : World) : Prop := ∃ aq cq acs ccs, e = .returned (.tuple #[.slice aq asks.length cq, .slice acs asks.length ccs]) ∧ Rqs w' aq (asks.map (fun s => s.1)) ∧ Ints .i64 w' acs (asks.map (fun s => s.2)) ∧ asks.length ≤ cq ∧ asks.length ≤ ccs ∧ (acs = none → ccs = 0) ∧ Below w.heap.size w w'
theorem own_ne' {W : World} {base base' n n' size size' : Nat} {e t : TypeId} {v v' : Value} {xs ys : List Value} (h : W.ownsRow base e size v n xs) (h' : W.ownsRow base' t size' v' n' ys) (hne : t ≠ e) : ∀ j, v'.ownBlock = some j → v.ownBlock ≠ some j := fun j hj => by
  rcases h'.2 with ⟨rfl, _⟩ | ⟨g, c, cur, rfl, _, h1, _⟩
  · cases hj
  · simp [Value.ownBlock] at hj
    subst hj
    exact own_ne h h1 hne
theorem own_kept {W W' : World} {base n size : Nat} {e : TypeId} {v : Value} {xs : List Value} {row : Option Nat} (h : W.ownsRow base e size v n xs) (hg : W.grownBy W' row) (hne : ∀ j, row = some j → v.ownBlock ≠ some j) : W'.ownsRow base e size v n xs := by
  refine ⟨h.1, ?_⟩
  rcases h.2 with h2 | ⟨g, c, cur, rfl, h2, h3, h4⟩
  · exact .inl h2
  · refine .inr ⟨g, c, cur, rfl, h2, ?_, h4⟩
    have hb := (Array.getElem?_eq_some_iff.1 h3).1
    rw [hg.block _ hb (fun e => hne g e.symm rfl)]; exact h3
set_option maxRecDepth 100000 in
set_option maxHeartbeats 4000000 in
theorem queue_any (asks : Shares) (a : Option Addr) (c : Nat) (w : World) (hx : Shs w a asks) (hc : asks.length ≤ c) (hl : asks.length ≤ 100000) :
    Calls Try.prog 11 #[.slice a asks.length c] w (QueueR asks w) := by
  have HS : Hid (QuM w asks 0 (.slice (some ⟨w.heap.size, 0, none⟩) 0 0) (.slice (some ⟨w.heap.size + 1, 0, none⟩) 0 0) ((w.alloc (.cells #[] 54)).alloc (.cells #[] 3))) := by
    have h1 := World.ownsRow_lit (base := w.heap.size) (e := 54) (size := 7) w #[] 0 (Nat.le_refl _) (by unfold maxLen; omega) rfl
    have h2 := World.ownsRow_lit (base := w.heap.size) (e := 3) (size := 1) (w.alloc (.cells #[] 54)) #[] 0 (by simp) (by unfold maxLen; omega) rfl
    rw [World.size_alloc] at h2
    exact Lib.hid ⟨h1.alloc _, h2, below_alloc (below_alloc (Below.refl _ _) _) _⟩
  go_enter Try.func11, Try.ntmps11
  go_wp2
  go_loopw [4, 5, 6] (fun vq vc i wr => ∃ k : Nat, i = .int .i64 k ∧ k ≤ asks.length ∧ Hid (QuM w asks k vq vc wr)) (fun _ _ i _ => asks.length - (intOf i).toNat)
  case atStart => exact ⟨0, rfl, by omega, HS⟩
  case round =>
    clear HS
    obtain ⟨k, rfl, hk, HM⟩ := hrel
    by_cases h : k < asks.length
    · obtain ⟨q0, c0, low⟩ := HM.out
      obtain ⟨x, rfl, e1, e2⟩ := (hx.below low).at h
      have hq' := hx.below low
      obtain ⟨i54, z54, hi, hz, hsz, hby, hzc⟩ := parts54
      obtain ⟨i3, hi3, hy0, hy1, hy2⟩ := info_parts info3
      have hsq : rqAll 0 ((asks.take (k + 1)).map (fun s => s.1)) = rqAll 0 ((asks.take k).map (fun s => s.1)) ++ rqFlat k asks[k].1 := by
        rw [List.take_succ_eq_append_getElem h, List.map_append]
        show rqAll 0 (_ ++ [asks[k].1]) = _
        rw [rqAll_snoc]
        simp; rw [Nat.min_eq_left (by omega)]
      have hsc : ((asks.take (k + 1)).map (fun s => s.2)).map (Value.int .i64) = ((asks.take k).map (fun s => s.2)).map (Value.int .i64) ++ [.int .i64 asks[k].2] := by
        rw [List.take_succ_eq_append_getElem h, List.map_append, List.map_append]; rfl
      have HSQ := Lib.hid (And.intro hsq hsc)
      have hlw := low.size
      have hne := own_ne' c0 q0 (by decide)
      have q1 := q0.alloc (.cells #[.int .i64 (k + 1), .string asks[k].1, .string AS, .int .i64 0, .int .i64 1, .int .i64 k, .int .i64 1099511627776] 54)
      have HC := Lib.hid (And.intro c0 (And.intro low (And.intro hne q0)))
      have HXX := Lib.hid hx
      have hqs : k < asks.length := h
      have E2 := Lib.hid e2
      generalize rqAll 0 ((asks.take k).map (fun s => s.1)) = xq at *
      generalize ((asks.take k).map (fun s => s.2)).map (Value.int .i64) = xc at *
      obtain ⟨s, hse⟩ : ∃ s, asks[k] = s := ⟨_, rfl⟩
      have HE := Lib.hid hse
      rw [hse] at e1 q1 HSQ
      clear hse
      clear hsq hsc q0 c0 low hne HM e2 hx hq'
      unfold AS at *
      go_wp2_with (at_builtin; refine wpList_append_own _ rfl _ _ 26 rfl w.heap.size 54 i54 z54 7 72 Try.underlying26 hi hz hsz hby hzc (by decide) _ k xq rfl q1 ⟨wr.heap.size, 0, none⟩ 1 1 (rqFlat k s.1) rfl rfl (fun j u hj => by rw [add_at, World.cell?_alloc_mark]; simpa [rqFlat, AS] using hj) (by intro u hu; simp [rqFlat] at hu; rcases hu with rfl | rfl | rfl | rfl | rfl | rfl | rfl <;> rfl) (by unfold maxLen; omega) (by omega) (by simp; omega) ?_)
      intro v6 w6 hown6 hgrow6 _
      obtain ⟨c0, low, hne, q0⟩ := HC.out
      have low6 : Below w.heap.size w w6 := below_app (w := w) (below_alloc low _) hgrow6 (q0.alloc _)
      have c6 := own_kept (c0.alloc (.cells #[.int .i64 (k + 1), .string s.1, .string AS, .int .i64 0, .int .i64 1, .int .i64 k, .int .i64 1099511627776] 54)) hgrow6 hne
      obtain ⟨x', hx', _, e3⟩ := (HXX.out.below low6).at h
      cases hx'
      rw [HE.out] at e3
      obtain ⟨ac, cc, rfl, _⟩ : ∃ ac cc, u5 = .slice ac k cc ∧ True := by
        obtain ⟨ac, cc, hv, _⟩ := vals_own c6
        have : xc.length = k := by have := c6.1; omega
        rw [this] at hv
        exact ⟨ac, cc, hv, trivial⟩
      have hown6 : w6.ownsRow w.heap.size 54 7 v6 (k + 1) (xq ++ rqFlat k s.1) := hown6
      have c7 := c6.alloc (.cells #[.int .i64 s.2] 3)
      have HO := Lib.hid (And.intro hown6 (And.intro low6 c6))
      have hlw6 := low6.size
      clear hown6 hgrow6 q1 c0 low hne q0 low6 c6 e1 HC
      go_wp2_with (at_builtin; refine wpList_append_own _ rfl _ _ 27 rfl w.heap.size 3 i3 (.int .i64 0) 1 8 Try.underlying27 hi3 hy0 hy1 hy2 rfl (by decide) _ k xc rfl c7 ⟨w6.heap.size, 0, none⟩ 1 1 [.int .i64 s.2] rfl rfl (cell_one_new _ _ _) (by intro u hu; simp at hu; subst hu; rfl) (by unfold maxLen; omega) (by omega) (by simp; omega) ?_)
      intro v7 w7 hown7 hgrow7 _
      have HN : Hid (QuM w asks (k + 1) v6 v7 w7) := by
        obtain ⟨q6, low6, c6⟩ := HO.out
        obtain ⟨hsq, hsc⟩ := HSQ.out
        refine Lib.hid ⟨by rw [hsq]; exact own_kept (q6.alloc _) hgrow7 (own_ne' (q6.alloc _) (c6.alloc (.cells #[.int .i64 s.2] 3)) (by decide)), by rw [hsc]; exact hown7, below_app (w := w) (below_alloc low6 _) hgrow7 (c6.alloc _)⟩
      clear hown7 hgrow7 c7 HO HSQ
      go_wp2
      go_roundw
      case rel => exact ⟨k + 1, by go_num, by omega, HN⟩
      case measure => simp [intOf]; omega
    · obtain ⟨q0, c0, low⟩ := HM.out
      have hke : k = asks.length := by omega
      subst hke
      rw [List.take_length] at q0 c0
      have hml : (asks.map (fun s => s.1)).length = asks.length := by simp
      have hml2 : (asks.map (fun s => s.2)).length = asks.length := by simp
      rw [← hml] at q0
      obtain ⟨aq, cq, rfl, hq, hcq⟩ := rqs_own q0
      obtain ⟨ac, cc, rfl, hci⟩ := ints_own c0
      have hcc := own_cap c0
      have hcn := own_nil c0
      rw [hml] at hcq ⊢
      rw [hml2] at c0 ⊢
      have HO : Hid (Rqs wr aq (asks.map (fun s => s.1)) ∧ Ints .i64 wr ac (asks.map (fun s => s.2)) ∧ asks.length ≤ cq ∧ asks.length ≤ cc ∧ (ac = none → cc = 0) ∧ Below w.heap.size w wr) := Lib.hid ⟨hq, hci, hcq, hcc, hcn, low⟩
      clear q0 c0 low hq hci hcq hcc hcn HM hml hml2
      go_wp2
      refine bodyPost_ret (v := .tuple #[.slice aq asks.length cq, .slice ac asks.length cc]) (by simp [results, Try.results11, Try.f11, go_sem]) rfl ?_
      exact ⟨aq, cq, ac, cc, rfl, HO.out⟩
end Go.Proofs.Ytdfnpknekjgkiaa
