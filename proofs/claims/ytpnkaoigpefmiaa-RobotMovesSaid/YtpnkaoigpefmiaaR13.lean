/- Find. -/
import Derived.Test.YtpnkaoigpefmiaaR12
namespace Go.Proofs.Ytpnkaoigpefmiaa
open Go.RowKit Go.Shelf
attribute [local go_sem] Oper.semAt_some
set_option linter.unusedVariables false
set_option linter.unusedSimpArgs false

/-- A block of cells. -/
def Blk (W : World) (B : Nat) (t : TypeId) (cs : Array Value) : Prop := W.heap[B]? = some (.cells cs t (0, 0))
theorem blk_own {β : Type} (B : Nat) (t : TypeId) (f : β → Array Value) : Own (fun s W => Blk W B t (f s)) := fun s X Y row hs hg hrow =>
  (hg.block B (Array.getElem?_eq_some_iff.1 hs).1 (fun e' => by obtain ⟨o, ho, hc⟩ := hrow B e'.symm; rw [show X.heap[B]? = _ from hs] at ho; cases ho; cases hc)).trans hs
theorem Blk.lt {W : World} {B : Nat} {t : TypeId} {cs : Array Value} (h : Blk W B t cs) : B < W.heap.size := (Array.getElem?_eq_some_iff.1 h).1
theorem Blk.kept {W W' : World} {row : Option Nat} {B : Nat} {t : TypeId} {cs : Array Value} (h : Blk W B t cs) (hg : W.grownBy W' row) (hne : some B ≠ row) : Blk W' B t cs := (hg.block B h.lt hne).trans h
theorem Blk.alloc {W : World} {B : Nat} {t : TypeId} {cs : Array Value} (h : Blk W B t cs) (o : Obj) : Blk (W.alloc o) B t cs := h.kept (World.grownBy_alloc W o none) (by simp)
theorem Blk.cell {W : World} {B : Nat} {t : TypeId} {cs : Array Value} (h : Blk W B t cs) (j : Nat) : W.cell? ⟨B, j, none⟩ = cs[j]? := cell_of_row W B j cs t (0, 0) h
theorem Blk.free {W : World} {B : Nat} {t : TypeId} {cs : Array Value} (h : Blk W B t cs) (j : Nat) : W.frozen? ⟨B, j, none⟩ = false := by simp [World.frozen?, show W.heap[B]? = _ from h]
theorem Blk.new (W : World) (t : TypeId) (cs : Array Value) : Blk (W.alloc (.cells cs t)) W.heap.size t cs := World.alloc_heap_new W _

theorem Blk.set0 {W : World} {B : Nat} {t : TypeId} {u v : Value} (h : Blk W B t #[u, v]) (u' : Value) : Blk (W.setCell ⟨B, 0, none⟩ u') B t #[u', v] := by
  have hlt := h.lt
  have h' : W.heap[B] = .cells #[u, v] t (0, 0) := by
    have := h
    unfold Blk at this
    rw [Array.getElem?_eq_getElem hlt] at this
    exact Option.some.inj this
  show (W.heap.modify B _)[B]? = _
  rw [Array.getElem?_eq_getElem (by simpa using hlt), Array.getElem_modify_self, h']
  rfl
theorem Blk.set1 {W : World} {B : Nat} {t : TypeId} {u v : Value} (h : Blk W B t #[u, v]) (u' : Value) : Blk (W.setCell ⟨B, 1, none⟩ u') B t #[u, u'] := by
  have hlt := h.lt
  have h' : W.heap[B] = .cells #[u, v] t (0, 0) := by
    have := h
    unfold Blk at this
    rw [Array.getElem?_eq_getElem hlt] at this
    exact Option.some.inj this
  show (W.heap.modify B _)[B]? = _
  rw [Array.getElem?_eq_getElem (by simpa using hlt), Array.getElem_modify_self, h']
  rfl
theorem Blk.set2 {W : World} {B : Nat} {t : TypeId} {u v : Value} (h : Blk W B t #[u, v]) (u' v' : Value) : Blk ((W.setCell ⟨B, 0, none⟩ u').setCell ⟨B, 1, none⟩ v') B t #[u', v'] := (h.set0 u').set1 v'
theorem Blk.other {W : World} {B B' : Nat} {t : TypeId} {cs : Array Value} (h : Blk W B t cs) (j : Nat) (hne : B ≠ B') (u : Value) : Blk (W.setCell ⟨B', j, none⟩ u) B t cs := (Below.heap_setCell W ⟨B', j, none⟩ u B (by show _ ≠ _; exact hne)).trans h
theorem boxed_other {W : World} {B B' : Nat} {t : TypeId} {v : Value} (h : Boxed W B t v) (j : Nat) (hne : B ≠ B') (u : Value) : Boxed (W.setCell ⟨B', j, none⟩ u) B t v := (Below.heap_setCell W ⟨B', j, none⟩ u B (by show _ ≠ _; exact hne)).trans h

set_option maxRecDepth 100000 in
set_option maxHeartbeats 8000000 in
theorem find_in (F : Fence) (n : Nat) (h22 : F.fn 22) (h38 : F.fn 38) (h45 : F.fn 45) (hro : F.round = none) (hn : 6 ≤ n) (r : Rb) (a : Option Addr) (c : Nat) (b : ByteArray) (w : World) (hx : Strs w a r.slots) (hc : r.slots.length ≤ c) (hl : r.slots.length ≤ 1000000) :
    CallsIn F n Try.prog 22 #[r.val a c, .string b] w fun e w' => e = .returned (.tuple #[.agg #[.int .i64 (findOf r b).1, .int .i64 (findOf r b).2.1], .bool (findOf r b).2.2]) ∧ Below w.heap.size w w' := by
  have h1 : 1 ≤ n := by omega
  have PL := fun wx => Lib.hid (places_in F (n - 1) h38 hro r a c wx)
  unfold Rb.val at *
  refine callsIn_of_wp_marks Try.func22 rfl h22 ?_ hro
  simp only [Try.ntmps22, List.size_toArray, List.length_cons, List.length_nil, Nat.reduceAdd, Nat.reduceSub, Array.replicate_succ, Array.replicate_zero, List.push_toArray, List.append_toArray, List.nil_append, List.cons_append]
  gi_wp2_with (gi_at_call 38; refine ((PL _).out).mono ?_; rintro e w' ⟨rfl, rfl⟩)
  have hB0 : Below w.heap.size w (((((w.alloc (.cells #[.int .i64 r.pos, .bool r.failed, .slice a r.slots.length c, .string r.port, .string r.hand] 26)).alloc (.cells #[.string b] 9)).alloc (.cells #[.int .i64 0, .int .i64 0] 28)).alloc (.cells #[.bool false] 4)).alloc (.cells #[.int .i64 r.pos, .bool r.failed, .slice a r.slots.length c, .string r.port, .string r.hand] 26)) := below_alloc (below_alloc (below_alloc (below_alloc (below_alloc (Below.refl _ _) _) _) _) _) _
  have hsz : (((((w.alloc (.cells #[.int .i64 r.pos, .bool r.failed, .slice a r.slots.length c, .string r.port, .string r.hand] 26)).alloc (.cells #[.string b] 9)).alloc (.cells #[.int .i64 0, .int .i64 0] 28)).alloc (.cells #[.bool false] 4)).alloc (.cells #[.int .i64 r.pos, .bool r.failed, .slice a r.slots.length c, .string r.port, .string r.hand] 26)).heap.size = w.heap.size + 5 := by simp
  have bB : Boxed (((((w.alloc (.cells #[.int .i64 r.pos, .bool r.failed, .slice a r.slots.length c, .string r.port, .string r.hand] 26)).alloc (.cells #[.string b] 9)).alloc (.cells #[.int .i64 0, .int .i64 0] 28)).alloc (.cells #[.bool false] 4)).alloc (.cells #[.int .i64 r.pos, .bool r.failed, .slice a r.slots.length c, .string r.port, .string r.hand] 26)) (w.heap.size + 1) 9 (.string b) := by
    have := (((Boxed.new (w.alloc (.cells #[.int .i64 r.pos, .bool r.failed, .slice a r.slots.length c, .string r.port, .string r.hand] 26)) 9 (.string b)).alloc (.cells #[.int .i64 0, .int .i64 0] 28)).alloc (.cells #[.bool false] 4)).alloc (.cells #[.int .i64 r.pos, .bool r.failed, .slice a r.slots.length c, .string r.port, .string r.hand] 26)
    simp only [World.size_alloc] at this; exact this
  have bE : Blk (((((w.alloc (.cells #[.int .i64 r.pos, .bool r.failed, .slice a r.slots.length c, .string r.port, .string r.hand] 26)).alloc (.cells #[.string b] 9)).alloc (.cells #[.int .i64 0, .int .i64 0] 28)).alloc (.cells #[.bool false] 4)).alloc (.cells #[.int .i64 r.pos, .bool r.failed, .slice a r.slots.length c, .string r.port, .string r.hand] 26)) (w.heap.size + 1 + 1) 28 #[.int .i64 0, .int .i64 0] := by
    have := ((Blk.new ((w.alloc (.cells #[.int .i64 r.pos, .bool r.failed, .slice a r.slots.length c, .string r.port, .string r.hand] 26)).alloc (.cells #[.string b] 9)) 28 #[.int .i64 0, .int .i64 0]).alloc (.cells #[.bool false] 4)).alloc (.cells #[.int .i64 r.pos, .bool r.failed, .slice a r.slots.length c, .string r.port, .string r.hand] 26)
    simp only [World.size_alloc] at this; exact this
  have bO : Boxed (((((w.alloc (.cells #[.int .i64 r.pos, .bool r.failed, .slice a r.slots.length c, .string r.port, .string r.hand] 26)).alloc (.cells #[.string b] 9)).alloc (.cells #[.int .i64 0, .int .i64 0] 28)).alloc (.cells #[.bool false] 4)).alloc (.cells #[.int .i64 r.pos, .bool r.failed, .slice a r.slots.length c, .string r.port, .string r.hand] 26)) (w.heap.size + 1 + 1 + 1) 4 (.bool false) := by
    have := (Boxed.new (((w.alloc (.cells #[.int .i64 r.pos, .bool r.failed, .slice a r.slots.length c, .string r.port, .string r.hand] 26)).alloc (.cells #[.string b] 9)).alloc (.cells #[.int .i64 0, .int .i64 0] 28)) 4 (.bool false)).alloc (.cells #[.int .i64 r.pos, .bool r.failed, .slice a r.slots.length c, .string r.port, .string r.hand] 26)
    simp only [World.size_alloc] at this; exact this
  have bR : RB (w.heap.size + 1 + 1 + 1 + 1) r a c (((((w.alloc (.cells #[.int .i64 r.pos, .bool r.failed, .slice a r.slots.length c, .string r.port, .string r.hand] 26)).alloc (.cells #[.string b] 9)).alloc (.cells #[.int .i64 0, .int .i64 0] 28)).alloc (.cells #[.bool false] 4)).alloc (.cells #[.int .i64 r.pos, .bool r.failed, .slice a r.slots.length c, .string r.port, .string r.hand] 26)) := by
    have := RB.start ((((w.alloc (.cells #[.int .i64 r.pos, .bool r.failed, .slice a r.slots.length c, .string r.port, .string r.hand] 26)).alloc (.cells #[.string b] 9)).alloc (.cells #[.int .i64 0, .int .i64 0] 28)).alloc (.cells #[.bool false] 4)) r a c
    simp only [World.size_alloc] at this; exact this
  obtain ⟨W0, hW0⟩ : ∃ W0, (((((w.alloc (.cells #[.int .i64 r.pos, .bool r.failed, .slice a r.slots.length c, .string r.port, .string r.hand] 26)).alloc (.cells #[.string b] 9)).alloc (.cells #[.int .i64 0, .int .i64 0] 28)).alloc (.cells #[.bool false] 4)).alloc (.cells #[.int .i64 r.pos, .bool r.failed, .slice a r.slots.length c, .string r.port, .string r.hand] 26)) = W0 := ⟨_, rfl⟩
  rw [hW0] at bB bE bO bR hB0 hsz ⊢
  clear hW0 PL
  have hs0 := hx.below hB0
  have ha : ∀ x, a = some x → r.slots ≠ [] → x.block < W0.heap.size := fun x e hne => Vals.lt hs0 x e (by simpa using hne)
  refine wpIn_rangeFunc_ownH hro h1 (gf := 45) (lb := #[.pointer (some ⟨w.heap.size + 1 + 1 + 1 + 1, 0, none⟩)]) rfl h45 (enters_of Try.func45 (by kernel_rfl) rfl)
    (places_stops F (n - 1) h45 hro (by omega) (w.heap.size + 1 + 1 + 1 + 1) W0.heap.size r a c W0 hl hc (by omega) (Nat.le_refl _) bR hs0 ha) belowK_t (belowK_b (Nat.le_refl _)) (Below.refl _ _) (fun _ => rfl)
    (fun pre W => (∀ x ∈ pre, x.2.2 = b → b = E0) ∧ Below W0.heap.size W0 W)
    (fun cd pre W => ((cd = .ret ∧ ∃ q x, pre = q ++ [x] ∧ (∀ y ∈ q, y.2.2 = b → b = E0) ∧ x.2.2 = b ∧ b ≠ E0 ∧ Blk W (w.heap.size + 1 + 1) 28 #[.int .i64 x.1, .int .i64 x.2.1]) ∧ Boxed W (w.heap.size + 1 + 1 + 1) 4 (.bool true)) ∧ Below w.heap.size w W)
    (OwnFrom.and (ownFrom_pure _ _) (ownFrom_below (Nat.le_refl _) (Nat.le_refl _)))
    (fun cd => OwnFrom.and (OwnFrom.and (fun s X Y row hs hg hr => by obtain ⟨e1, q, x, e2, e3, e4, e5, e6⟩ := hs; exact ⟨e1, q, x, e2, e3, e4, e5, blk_own _ 28 (fun (_ : Unit) => #[Value.int .i64 x.1, Value.int .i64 x.2.1]) () X Y row e6 hg (fun r e => (hr r e).2)⟩) (Own.from (boxed_own _ _ _) _)) (ownFrom_below (Nat.le_refl _) (by omega)))
    ⟨by simp, Below.refl _ _⟩
    (fun x a' W => ∃ Bx, w.heap.size + 1 + 1 + 1 < Bx ∧ Blk W Bx 28 #[.int .i64 x.1, .int .i64 x.2.1] ∧ a' = { tmps := #[(.agg #[.int .i64 r.pos, .bool r.failed, .slice a r.slots.length c, .string r.port, .string r.hand]), .string b, .pointer (some ⟨w.heap.size, 0, none⟩), .pointer (some ⟨w.heap.size + 1, 0, none⟩), .pointer (some ⟨w.heap.size + 1 + 1, 0, none⟩), .pointer (some ⟨w.heap.size + 1 + 1 + 1, 0, none⟩), .pointer (some ⟨Bx, 0, none⟩), .string x.2.2, (.agg #[.int .i64 r.pos, .bool r.failed, .slice a r.slots.length c, .string r.port, .string r.hand]), .func (.func 45) #[] #[.pointer (some ⟨w.heap.size + 1 + 1 + 1 + 1, 0, none⟩)], .agg #[.int .i64 x.1, .int .i64 x.2.1], .string x.2.2, undef, undef, undef, undef, undef, undef, undef, undef, undef], defers := [] })
    (fun x a' _ X Y row hs hg hr => by obtain ⟨Bx, e1, e2, e3⟩ := hs; exact ⟨Bx, e1, blk_own Bx 28 (fun (_ : Unit) => #[Value.int .i64 x.1, Value.int .i64 x.2.1]) () X Y row e2 hg (fun r e => (hr r e).2), e3⟩)
    ?assign ?body ?done ?stop
  case assign =>
    rintro l pre x W K ⟨hp, hB1⟩ hK
    have hsW := hB1.size
    simp only [encIt]
    gi_wp2
    exact hK _ _ ((KeepsOthers.alloc _ _).from _) ((Below.refl _ W).alloc hsW _) ⟨hp, hB1.alloc hsW _⟩ ⟨W.heap.size, by omega, Blk.new W 28 _, rfl⟩
  case body =>
    rintro l pre x a' W hl ⟨rr, hr⟩ ⟨hp, hB1⟩ ⟨Bx, hBx, bX, rfl⟩ hlt
    have b1 : Boxed W (w.heap.size + 1) 9 (.string b) := (hB1.block _ (by omega)).trans bB
    have b2 : Blk W (w.heap.size + 1 + 1) 28 #[.int .i64 0, .int .i64 0] := (hB1.block _ (by omega)).trans bE
    have b3 : Boxed W (w.heap.size + 1 + 1 + 1) 4 (.bool false) := (hB1.block _ (by omega)).trans bO
    have c1 := b1.cell
    have x0 := bX.cell 0
    have x1 := bX.cell 1
    simp only [List.getElem?_toArray, List.getElem?_cons_zero, List.getElem?_cons_succ] at x0 x1
    have hno : ∀ hh : (x.2.2 = b → b = E0), ∀ y ∈ pre ++ [x], y.2.2 = b → b = E0 := fun hh y hy => by
      rcases List.mem_append.1 hy with hy | hy
      · exact hp y hy
      · simp at hy; subst hy; exact hh
    by_cases hxb : x.2.2 = b
    · by_cases hbe : b = E0
      · have q1 := eq_str hxb
        have q2 : x.2.2.toList.isEmpty = true := by rw [hxb, hbe, ByteArray.toList_eq]; rfl
        have HN := Lib.hid (hno (fun _ => hbe))
        clear hno hp hxb hbe
        gi_wp2
        exact ⟨KeepsFrom.refl _ _, Below.refl _ _, HN.out, hB1⟩
      · have q1 := eq_str hxb
        have q2 : x.2.2.toList.isEmpty = false := ne_isEmpty (by rw [hxb]; exact hbe)
        have HP := Lib.hid (And.intro hp (And.intro hxb hbe))
        clear hno hp hxb hbe
        have d0 := b2.cell 0
        have d1 := b2.cell 1
        have f0 := b2.free 0
        have f1 := b2.free 1
        have s2 := b2.set0 (.int .i64 x.1)
        have d1' := s2.cell 1
        have f1' := s2.free 1
        have s3 := b2.set2 (.int .i64 x.1) (.int .i64 x.2.1)
        have t3 := boxed_other (boxed_other b3 0 (show w.heap.size + 1 + 1 + 1 ≠ w.heap.size + 1 + 1 by omega) (.int .i64 x.1)) 1 (show w.heap.size + 1 + 1 + 1 ≠ w.heap.size + 1 + 1 by omega) (.int .i64 x.2.1)
        have t4 := t3.cell
        have t5 := t3.frozen
        simp only [List.getElem?_toArray, List.getElem?_cons_zero, List.getElem?_cons_succ] at d0 d1 d1'
        gi_wp2
        refine ⟨(((KeepsOthers.setCell _ _ _).trans (KeepsOthers.setCell _ _ _)).trans (KeepsOthers.setCell _ _ _)).from _, ⟨⟨rfl, pre, x, rfl, HP.out.1, HP.out.2.1, HP.out.2.2, s3.other 0 (by omega) _⟩, t3.set _⟩, ?_⟩
        exact (((Below.trans hB0 (hB1.mono hB0.size)).setCell (by show w.heap.size ≤ _; simp; omega) _).setCell (by show w.heap.size ≤ _; simp; omega) _).setCell (by show w.heap.size ≤ _; simp; omega) _
    · have q1 := ne_str hxb
      have HN := Lib.hid (hno (fun e => absurd e hxb))
      clear hno hp hxb
      gi_wp2
      exact ⟨KeepsFrom.refl _ _, Below.refl _ _, HN.out, hB1⟩
  case done =>
    rintro D zs W hD rfl ⟨hp, hB1⟩ hK
    have HV := Lib.hid (find_none hp)
    have b2 : Blk W (w.heap.size + 1 + 1) 28 #[.int .i64 0, .int .i64 0] := (hB1.block _ (by omega)).trans bE
    have b3 : Boxed W (w.heap.size + 1 + 1 + 1) 4 (.bool false) := (hB1.block _ (by omega)).trans bO
    have d0 := b2.cell 0
    have d1 := b2.cell 1
    have f0 := b2.free 0
    have f1 := b2.free 1
    have s2 := b2.set0 (.int .i64 0)
    have d1' := s2.cell 1
    have f1' := s2.free 1
    have s3 := b2.set2 (.int .i64 0) (.int .i64 0)
    have t3 := boxed_other (boxed_other b3 0 (show w.heap.size + 1 + 1 + 1 ≠ w.heap.size + 1 + 1 by omega) (.int .i64 0)) 1 (show w.heap.size + 1 + 1 + 1 ≠ w.heap.size + 1 + 1 by omega) (.int .i64 0)
    have t4 := t3.cell
    have t5 := t3.frozen
    simp only [List.getElem?_toArray, List.getElem?_cons_zero, List.getElem?_cons_succ] at d0 d1 d1'
    clear hp
    gi_wp2
    have hK' := (((KeepsOthers.setCell W ⟨w.heap.size + 1 + 1, 0, none⟩ (.int .i64 0)).trans (KeepsOthers.setCell _ ⟨w.heap.size + 1 + 1, 1, none⟩ (.int .i64 0))).trans (KeepsOthers.setCell _ ⟨w.heap.size + 1 + 1 + 1, 0, none⟩ (.bool false))).same D _ hK rfl
    have s4 := s3.other (B' := w.heap.size + 1 + 1 + 1) 0 (by omega) (.bool false)
    have t6 := t3.set (.bool false)
    refine ⟨by simp, .inl ⟨_, _, rfl, run_takeDeferred hK', ?_⟩⟩
    have k0 := cell_kept (show (((W.setCell ⟨w.heap.size + 1 + 1, 0, none⟩ (.int .i64 0)).setCell ⟨w.heap.size + 1 + 1, 1, none⟩ (.int .i64 0)).setCell ⟨w.heap.size + 1 + 1 + 1, 0, none⟩ (.bool false)).cell? ⟨w.heap.size + 1 + 1, 0, none⟩ = some (.int .i64 0) from (s4.cell 0).trans rfl) (grownBy_putObj' _ D (.deferred none)) (fun r e => by cases e; exact ⟨_, hK', rfl⟩)
    have k1 := cell_kept (show (((W.setCell ⟨w.heap.size + 1 + 1, 0, none⟩ (.int .i64 0)).setCell ⟨w.heap.size + 1 + 1, 1, none⟩ (.int .i64 0)).setCell ⟨w.heap.size + 1 + 1 + 1, 0, none⟩ (.bool false)).cell? ⟨w.heap.size + 1 + 1, 1, none⟩ = some (.int .i64 0) from (s4.cell 1).trans rfl) (grownBy_putObj' _ D (.deferred none)) (fun r e => by cases e; exact ⟨_, hK', rfl⟩)
    have k2 := cell_kept t6.cell (grownBy_putObj' _ D (.deferred none)) (fun r e => by cases e; exact ⟨_, hK', rfl⟩)
    have hbw : Below w.heap.size w (((W.setCell ⟨w.heap.size + 1 + 1, 0, none⟩ (.int .i64 0)).setCell ⟨w.heap.size + 1 + 1, 1, none⟩ (.int .i64 0)).setCell ⟨w.heap.size + 1 + 1 + 1, 0, none⟩ (.bool false)) := (((Below.trans hB0 (hB1.mono hB0.size)).setCell (by show w.heap.size ≤ _; simp; omega) _).setCell (by show w.heap.size ≤ _; simp; omega) _).setCell (by show w.heap.size ≤ _; simp; omega) _
    refine ⟨.tuple #[.agg #[.int .i64 0, .int .i64 0], .bool false], ?_, by rw [HV.out], hbw.trans (belowK_b (w := w) (Nat.le_refl _) _ D _ _ (by omega) hK' rfl rfl)⟩
    simp [results, Try.results22, Try.f22, go_sem, k0, k1, k2]
  case stop =>
    rintro D c pre W hD hpre ⟨⟨⟨rfl, q, x, rfl, e1, e2, e3, s3⟩, t3⟩, hB1⟩ hK
    have HV := Lib.hid (find_at hpre e1 e2 e3)
    clear e1 e2 e3
    gi_wp2
    refine ⟨by simp, .inl ⟨_, _, rfl, run_takeDeferred hK, ?_⟩⟩
    have k0 := cell_kept (show W.cell? ⟨w.heap.size + 1 + 1, 0, none⟩ = some (.int .i64 x.1) from (s3.cell 0).trans rfl) (grownBy_putObj' _ D (.deferred none)) (fun r e => by cases e; exact ⟨_, hK, rfl⟩)
    have k1 := cell_kept (show W.cell? ⟨w.heap.size + 1 + 1, 1, none⟩ = some (.int .i64 x.2.1) from (s3.cell 1).trans rfl) (grownBy_putObj' _ D (.deferred none)) (fun r e => by cases e; exact ⟨_, hK, rfl⟩)
    have k2 := cell_kept t3.cell (grownBy_putObj' _ D (.deferred none)) (fun r e => by cases e; exact ⟨_, hK, rfl⟩)
    refine ⟨.tuple #[.agg #[.int .i64 x.1, .int .i64 x.2.1], .bool true], ?_, by rw [HV.out], hB1.trans (belowK_b (w := w) (Nat.le_refl _) W D _ _ (by omega) hK rfl rfl)⟩
    simp [results, Try.results22, Try.f22, go_sem, k0, k1, k2]
theorem find_any (r : Rb) (a : Option Addr) (c : Nat) (b : ByteArray) (w : World) (hx : Strs w a r.slots) (hc : r.slots.length ≤ c) (hl : r.slots.length ≤ 1000000) :
    Calls Try.prog 22 #[r.val a c, .string b] w fun e w' => e = .returned (.tuple #[.agg #[.int .i64 (findOf r b).1, .int .i64 (findOf r b).2.1], .bool (findOf r b).2.2]) ∧ Below w.heap.size w w' :=
  (callsIn_wide (n := 6)).1 (find_in Fence.wide 6 trivial trivial trivial rfl (Nat.le_refl _) r a c b w hx hc hl)
end Go.Proofs.Ytpnkaoigpefmiaa
