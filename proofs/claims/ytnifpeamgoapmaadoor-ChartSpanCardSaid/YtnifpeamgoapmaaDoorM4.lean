/- The queue's method Pop. -/
import Derived.Test.YtnifpeamgoapmaaDoorM3
set_option linter.unusedVariables false
set_option linter.unusedSimpArgs false
namespace Go.Proofs.YtnifpeamgoapmaaDoor
open Go Go.RowKit

theorem step_delete {P : Program} {ops : Array Oper} {o : Oper} {a : Act} {w : World} {K : Act → World → Prop} {Q : Exit → Act → World → Prop} {E : Prop} (hgd : o.guard = none) (m x : Operand) (t k e : TypeId)
    (ho : o.op = .call { callee := .builtin .delete, args := #[m, x], argTypes := #[t, k] }) (ht : P.underlying t = some (.map k e)) (hk : P.underlying k = some (.int .i64)) (b : Nat) (f : Int → Option Int) (g : Int → Nat)
    (hm : a.eval m = .map (some b)) (kx : Int) (hx : a.eval x = .int .i64 kx) (h : IMap w b f g)
    (hK : ∀ w', w.grownBy w' (some b) → IMap w' b (fun y => if y = kx then none else f y) g → K (a.put o.dst (.tuple #[])) w') :
    if Region.wanted o (yielded ops a.tmps) = true then Oper.wp P o a w K Q else E := by
  have hw : Region.wanted o (yielded ops a.tmps) = true := by simp [Region.wanted, hgd]
  rw [if_pos hw]
  obtain ⟨w', hrun, h2, h3⟩ := h.del ht hk o.type kx
  unfold Oper.wp execOp
  simp only [ho, resolve, invoke, builtin, Sem.run_bind, Sem.run_pure, Result.andThen_ok, List.map_toArray, List.map_cons, List.map_nil, hm, hx, hrun]
  exact hK w' h2 h3

theorem ecells_take (es : List Ent) (m : Nat) : ecells (es.take m) = (ecells es).take (m * 3) := by
  induction es generalizing m with
  | nil => simp [ecells]
  | cons a es ih =>
    cases m with
    | zero => simp [ecells]
    | succ m =>
      have := ih m
      simp only [ecells, List.flatMap_cons, List.take_succ_cons] at this ⊢
      rw [show (m + 1) * 3 = m * 3 + 3 by omega, this]
      simp
theorem own_take {w : World} {base g n cap m : Nat} {e : TypeId} {size : Nat} {xs : List Value} (h : w.ownsRow base e size (.slice (some ⟨g, 0, none⟩) n cap) n xs) (hm : m ≤ n) : w.ownsRow base e size (.slice (some ⟨g, 0, none⟩) m cap) m (xs.take (m * size)) := by
  have hms : m * size ≤ n * size := Nat.mul_le_mul_right _ hm
  refine ⟨by rw [List.length_take, h.1]; omega, .inr ?_⟩
  rcases h.2 with ⟨e, _⟩ | ⟨g', c', cur, e, h1, h2, h3, h4, h5, h6⟩
  · cases e
  · injection e with e1 e2 e3
    injection e1 with e1
    injection e1 with e1
    subst e1
    subst e3
    exact ⟨g, cap, cur, rfl, h1, h2, by omega, h4, h5, by rw [← h6, List.take_take, Nat.min_eq_left hms]⟩

theorem PlOK.pop {es : List Ent} {f : Int → Option Int} (h : PlOK es f) {e0 : Ent} (hn : 0 < es.length) (h0 : es[es.length - 1]? = some e0) : PlOK (es.take (es.length - 1)) (fun y => if y = e0.h then none else f y) := by
  refine ⟨fun i e hi => ?_, fun k v hk => ?_⟩
  · rw [List.getElem?_take] at hi
    split at hi
    · have hne : e.h ≠ e0.h := fun he => by have := h.inj hi h0 he; omega
      simp [hne, h.at_ i e hi]
    · cases hi
  · by_cases hke : k = e0.h
    · simp [hke] at hk
    · simp [hke] at hk
      obtain ⟨e, he, hh⟩ := h.only k v hk
      obtain ⟨i, hi⟩ := List.mem_iff_getElem?.1 he
      have hil := (List.getElem?_eq_some_iff.1 hi).1
      have hne : i ≠ es.length - 1 := fun e' => by subst e'; rw [h0] at hi; injection hi with hi; subst hi; exact hke hh.symm
      exact ⟨e, List.mem_iff_getElem?.2 ⟨i, by rw [List.getElem?_take, if_pos (by omega)]; exact hi⟩, hh⟩

theorem take_last_perm {es : List Ent} {e0 : Ent} (hn : 0 < es.length) (h0 : es[es.length - 1]? = some e0) : es.Perm (e0 :: es.take (es.length - 1)) := by
  have h1 : es = es.take (es.length - 1) ++ [e0] := by
    have h2 := List.take_append_drop (es.length - 1) es
    have h3 : es.drop (es.length - 1) = [e0] := by
      rw [List.drop_eq_getElem_cons (by omega)]
      obtain ⟨h4, h5⟩ := List.getElem?_eq_some_iff.1 h0
      rw [h5]
      simp
      omega
    rw [h3] at h2
    exact h2.symm
  have h6 : (es.take (es.length - 1) ++ [e0]).Perm (e0 :: es.take (es.length - 1)) := List.perm_append_comm
  rw [← h1] at h6
  exact h6
/-- Pop of an empty queue -/
def PopNone (w : World) (e : Ending) (w' : World) : Prop := e = .returned (.tuple #[.int .i64 0, .bool false]) ∧ Below w.heap.size w w'
theorem pop_none (q pl sv S be N : Nat) (best : List Vl) (hv : Value) (nx ck : Int) (w : World) (hQ : QAll w q pl sv S be N hv best [] nx ck) : Calls Tryd.prog 60 #[PB q] w (PopNone w) := by
  obtain ⟨f, gm, hR, hP⟩ := hQ.Q.ex
  obtain ⟨A, cap, hve⟩ := hR.slice
  subst hve
  have h1 := hR.rec_.cell 1
  simp at h1
  clear hR hP hQ
  go_enter Tryd.func60, Tryd.ntmps60
  go_wp2
  go_ret2
  exact ⟨rfl, (Below.refl _ _).alloc (Nat.le_refl _) _⟩

/-- what Pop leaves -/
def Popped (q pl sv S be N : Nat) (hv : Value) (best : List Vl) (es : List Ent) (nx ck : Int) (e0 : Ent) (w : World) (e : Ending) (w' : World) : Prop :=
  ∃ hv' es', e = .returned (.tuple #[.int .i64 e0.x, .bool true]) ∧ es.Perm (e0 :: es') ∧ Heap (vof best) es' ∧ QAll w' q pl sv S be N hv' best es' nx ck ∧ Kp (QF q pl hv) w w' ∧ hv'.ownBlock = hv.ownBlock

set_option maxHeartbeats 2000000 in
theorem pop_some (q pl sv S be N : Nat) (best : List Vl) (hv : Value) (es : List Ent) (nx ck : Int) {e0 : Ent} (he0 : es[0]? = some e0) (hn : es.length ≤ 1000) (hN : N ≤ 1000) (w : World)
    (hQ : QAll w q pl sv S be N hv best es nx ck) (hH : Heap (vof best) es) :
    Calls Tryd.prog 60 #[PB q] w (Popped q pl sv S be N hv best es nx ck e0 w) := by
  have hpos : 0 < es.length := (List.getElem?_eq_some_iff.1 he0).1
  obtain ⟨f, gm, hR, hP⟩ := hQ.Q.ex
  obtain ⟨g, cap, hve, hr⟩ := hR.form hpos
  subst hve
  have h1 := hR.rec_.cell 1
  simp at h1
  obtain ⟨i0, i1, i2⟩ := hr.cells 0 he0
  simp only [Nat.zero_mul, Nat.zero_add] at i0 i1 i2
  have hcap := hr.le.1
  have z1 : ((es.length : Int) == 0) = false := by rw [beq_eq_false_iff_ne]; omega
  have al1 := fun o => (World.cell?_alloc_lt w o _ (World.block_lt_of_cell? w _ h1)).trans h1
  have b0 := fun o => (World.cell?_alloc_lt w o _ (World.block_lt_of_cell? w _ i0)).trans i0
  have b1 := fun o => (World.cell?_alloc_lt w o _ (World.block_lt_of_cell? w _ i1)).trans i1
  have b2 := fun o => (World.cell?_alloc_lt w o _ (World.block_lt_of_cell? w _ i2)).trans i2
  have HQ := hide hQ
  have HH := hide hH
  have HE := hide he0
  clear hR hP hr hQ hH he0
  go_enter Tryd.func60, Tryd.ntmps60
  go_wp2_with fail
  go_region
  go_wp2_with fail
  have hbel : Below w.heap.size w (w.alloc (Obj.cells #[I e0.x, I e0.h, I e0.t] 114)).drew := ((Below.refl _ _).alloc (Nat.le_refl _) _).drew
  have hF : Blk (w.alloc (Obj.cells #[I e0.x, I e0.h, I e0.t] 114)).drew w.heap.size 114 #[I e0.x, I e0.h, I e0.t] := (Blk.new w 114 _).drew
  have eb : ((es.length : Int) - 1).toNat = es.length - 1 := by omega
  have HQ0 := hide (HQ.out.below hbel)
  refine (swap_int q pl sv S be N 0 ((es.length : Int) - 1) best (.slice (some ⟨g, 0, none⟩) es.length cap) es nx ck (by omega) (by omega) (by simpa using hpos) (by omega) hn _ HQ0.out).mono ?_
  rintro e w1 ⟨rfl, hq1, hk1⟩
  rw [eb] at hq1
  simp only [Int.toNat_zero] at hq1
  have hlast : (sw es 0 (es.length - 1))[es.length - 1]? = some e0 := sw_at_j es 0 (es.length - 1) HE.out (List.getElem?_eq_getElem (by omega))
  have hsl := sw_length es 0 (es.length - 1)
  have hFq : ¬ QF q pl (.slice (some ⟨g, 0, none⟩) es.length cap) w.heap.size := by
    obtain ⟨f', gm', hr', _⟩ := HQ.out.Q.ex
    rintro (h | h | h)
    · have := hr'.rec_.lt; omega
    · have := hr'.map.lt; omega
    · simp [Value.ownBlock] at h
      obtain ⟨_, _, e, hr''⟩ := hr'.form hpos
      injection e with e1; injection e1 with e1; injection e1 with e1
      have := hr''.lt; omega
  have hF1 := hF.kp hk1 hFq
  obtain ⟨f1, gm1, hR1, hP1⟩ := hq1.Q.ex
  have c1 := hR1.rec_.cell 1
  have d1 := hR1.rec_.frozen 1
  have c2 := hR1.rec_.cell 2
  simp at c1 c2
  have a1 := hF1.cell 0
  have a2 := hF1.cell 1
  simp at a1 a2
  have hq1F : q ≠ w.heap.size := fun h => hFq (.inl h.symm)
  have HK1 := hide hk1
  have HQ1 := hide hq1
  have HR1 := hide hR1
  have HP1 := hide hP1
  have HL := hide hlast
  have HS := hide hsl
  have HB := hide hbel
  have HF1 := hide hF1
  have HFQ := hide hFq
  clear h1 i0 i1 i2 al1 b0 b1 b2 hbel hF hq1 hk1 hlast hsl hF1 hR1 hP1 hFq eb
  go_wp2_with fail
  go_region_law ((refine step_delete (by rfl) _ _ 101 3 3 (by rfl) und101 Tryd.underlying3 pl f1 gm1 (by rfl) e0.h (by rfl) ((HR1.out.map.set_blk HR1.out.rec_ 1 _).drew) ?_; intro w3 hg3 hm3))
  all_goals
    go_wp2_with fail
    have hqpl := HR1.out.map.ne_blk HR1.out.rec_
    have hgpl : g ≠ pl := by
      obtain ⟨_, _, e, hr''⟩ := HR1.out.form (by rw [HS.out]; exact hpos)
      injection e with e1; injection e1 with e1; injection e1 with e1
      subst e1
      exact hr''.ne_map HR1.out.map
    have hrow1 : w1.ownsRow 0 114 3 (.slice (some ⟨g, 0, none⟩) es.length cap) es.length (ecells (sw es 0 (es.length - 1))) := by
      have := HR1.out.row
      rw [HS.out] at this
      exact this
    have hlen : ((sw es 0 (es.length - 1)).take (es.length - 1)).length = es.length - 1 := by rw [List.length_take, HS.out]; omega
    have hrow3 : w3.ownsRow 0 114 3 (.slice (some ⟨g, 0, none⟩) (es.length - 1) cap) ((sw es 0 (es.length - 1)).take (es.length - 1)).length (ecells ((sw es 0 (es.length - 1)).take (es.length - 1))) := by
      rw [hlen, ecells_take]
      exact World.ownsRow.kept (own_drew (own_set_blk (own_take hrow1 (Nat.sub_le _ _)) HR1.out.rec_ (by decide) 1 _)) hg3 (.inr (by simpa [Value.ownBlock] using hgpl))
    have hP3 := HP1.out.pop (by rw [HS.out]; exact hpos) (by rw [HS.out]; exact HL.out)
    rw [HS.out] at hP3
    have hk3 : Kp (QF q pl (.slice (some ⟨g, 0, none⟩) es.length cap)) w w3 :=
      ((((Kp.of_below HB.out).trans HK1.out).setCell (p := ⟨q, 1, none⟩) (.inl (.inl rfl)) _).drew).grown hg3 (fun k hk => .inl (QF.pl q pl _ k hk))
    have hA : QAll w3 q pl sv S be N (.slice (some ⟨g, 0, none⟩) (es.length - 1) cap) best ((sw es 0 (es.length - 1)).take (es.length - 1)) nx ck := by
      refine ⟨⟨_, _, ⟨((HR1.out.rec_.set_ 1 _).drew).grown hg3 (by simpa using hqpl), hrow3, hm3⟩, hP3⟩, ?_, ?_⟩
      · obtain ⟨f', gm', hr', _⟩ := HQ.out.Q.ex
        exact HQ.out.B.of_queue hr' hk3
      · exact fun e he => HQ1.out.E e (List.mem_of_mem_take he)
    have hD := HH.out.pop hpos
    refine (down_any q pl sv S be N 0 best _ _ nx ck (by omega) (.inr rfl) (by rw [hlen]; omega) hN _ hA hD).mono ?_
    rintro e w5 ⟨rfl, es', hp', hh', ha', hk'⟩
    have hF5 : Blk w5 w.heap.size 114 #[I e0.x, I e0.h, I e0.t] := by
      refine ((((HF1.out.far (p := ⟨q, 1, none⟩) (fun h => hq1F h.symm) _).drew).grown hg3 (fun h => HFQ.out (.inr (.inl (by injection h))))).kp hk' ?_)
      rintro (h | h | h)
      · exact HFQ.out (.inl h)
      · exact HFQ.out (.inr (.inl h))
      · exact HFQ.out (.inr (.inr h))
    have f0 := hF5.cell 0
    simp at f0
    have HP' := hide hp'
    have HHH := hide hh'
    have HA' := hide ha'
    have HK' := hide (hk3.trans hk')
    clear hp' hh' ha' hk' hF5 hD hA hk3 hP3 hrow3 hlen hrow1 hgpl hqpl c1 c2 a1 a2 d1
    go_wp2
    go_ret2
    refine ⟨_, es', rfl, ?_, HHH.out, HA'.out, HK'.out, rfl⟩
    have h7 := take_last_perm (by rw [HS.out]; exact hpos) (by rw [HS.out]; exact HL.out)
    rw [HS.out] at h7
    exact ((sw_perm es 0 (es.length - 1) hpos (by omega)).symm.trans h7).trans (HP'.out.symm.cons e0)
end Go.Proofs.YtnifpeamgoapmaaDoor
/- The queue's method Update, where the element stays the same and its value has become less. -/
namespace Go.Proofs.YtnifpeamgoapmaaDoor
open Go Go.RowKit

abbrev ekey (e : Ent) : Int × Int := (e.x, e.h)
/-- what Update leaves -/
def Updated (q pl sv S be N : Nat) (hv : Value) (best : List Vl) (es : List Ent) (nx : Int) (w : World) (e : Ending) (w' : World) : Prop :=
  ∃ es' ck', e = .returned (.bool true) ∧ (es'.map ekey).Perm (es.map ekey) ∧ Heap (vof best) es' ∧ QAll w' q pl sv S be N hv best es' nx ck' ∧ Kp (QF q pl hv) w w'

theorem set_same_keys {es : List Ent} {i : Nat} {e0 : Ent} (h : es[i]? = some e0) (t : Int) : (es.set i ⟨e0.x, e0.h, t⟩).map ekey = es.map ekey := by
  apply List.ext_getElem?
  intro k
  simp only [List.getElem?_map, List.getElem?_set]
  by_cases hk : i = k
  · subst hk
    obtain ⟨hl, h2⟩ := List.getElem?_eq_some_iff.1 h
    simp [hl, ekey, h2]
  · simp [hk]
theorem PlOK.time {es : List Ent} {f : Int → Option Int} (h : PlOK es f) {i : Nat} {e0 : Ent} (hi : es[i]? = some e0) (t : Int) : PlOK (es.set i ⟨e0.x, e0.h, t⟩) f := by
  have hl := (List.getElem?_eq_some_iff.1 hi).1
  refine ⟨fun k e hk => ?_, fun k v hk => ?_⟩
  · rw [List.getElem?_set] at hk
    by_cases hki : i = k
    · subst hki; simp [hl] at hk; subst hk; exact h.at_ i e0 hi
    · simp [hki] at hk; exact h.at_ k e hk
  · obtain ⟨e, he, hh⟩ := h.only k v hk
    obtain ⟨j, hj⟩ := List.mem_iff_getElem?.1 he
    by_cases hji : i = j
    · subst hji
      rw [hi] at hj; injection hj with hj; subst hj
      exact ⟨⟨e0.x, e0.h, t⟩, List.mem_iff_getElem?.2 ⟨i, by simp [List.getElem?_set, hl]⟩, hh⟩
    · exact ⟨e, List.mem_iff_getElem?.2 ⟨j, by simp [List.getElem?_set, hji, hj]⟩, hh⟩
theorem HUp.time {v : Int → Vl} {es : List Ent} {i : Nat} (h : HUp v es i) {e0 : Ent} (hi : es[i]? = some e0) (t : Int) : HUp v (es.set i ⟨e0.x, e0.h, t⟩) i := by
  have hl := (List.getElem?_eq_some_iff.1 hi).1
  have key : ∀ (k : Nat) (e : Ent), (es.set i ⟨e0.x, e0.h, t⟩)[k]? = some e → ∃ e' : Ent, es[k]? = some e' ∧ e'.x = e.x := by
    intro k e hk
    rw [List.getElem?_set] at hk
    by_cases hki : i = k
    · subst hki; simp [hl] at hk; subst hk; exact ⟨e0, hi, rfl⟩
    · simp [hki] at hk; exact ⟨e, hk, rfl⟩
  have le : ∀ {a a' b b' : Ent}, a'.x = a.x → b'.x = b.x → LE v a' b' → LE v a b := by
    intro a a' b b' h1 h2 h3
    unfold LE at *
    rw [← h1, ← h2]
    exact h3
  refine ⟨fun k p ek ep h0 hp h1 h2 hk => ?_, fun k ek ep h0 k0 hk h1 h2 => ?_⟩
  · obtain ⟨a, ha, hax⟩ := key k ek h1
    obtain ⟨b, hb, hbx⟩ := key p ep h2
    exact le hbx hax (h.1 k p a b h0 hp ha hb hk)
  · obtain ⟨a, ha, hax⟩ := key k ek h1
    obtain ⟨b, hb, hbx⟩ := key _ ep h2
    exact le hbx hax (h.2 k a b h0 k0 hk ha hb)

theorem set_same {α : Type} {l : List α} {k : Nat} {a : α} (h : l[k]? = some a) : l.set k a = l := by
  apply List.ext_getElem?
  intro j
  rw [List.getElem?_set]
  by_cases hk : k = j
  · subst hk; rw [h]; simp [(List.getElem?_eq_some_iff.1 h).1]
  · simp [hk]
theorem ecells_time {es : List Ent} {i : Nat} {e0 : Ent} (h : es[i]? = some e0) (t : Int) : ecells (es.set i ⟨e0.x, e0.h, t⟩) = ((ecells es).set (i * 3) (I e0.x)).set (i * 3 + 2) (I t) := by
  obtain ⟨h0, h1, h2⟩ := ecells_get es i h
  rw [ecells_set, set_same h0, set_same h1]

set_option maxHeartbeats 2000000 in
theorem update_any (q pl sv S be N i : Nat) (h x : Int) (best : List Vl) (hv : Value) (es : List Ent) (nx ck : Int) {e0 : Ent} (he0 : es[i]? = some e0) (hh : e0.h = h) (hx : e0.x = x) (hn : es.length ≤ 1000) (hN : N ≤ 1000) (w : World)
    (hQ : QAll w q pl sv S be N hv best es nx ck) (hH : HUp (vof best) es i) :
    Calls Tryd.prog 57 #[PB q, .int .i64 h, .int .i64 x] w (Updated q pl sv S be N hv best es nx w) := by
  have hil : i < es.length := (List.getElem?_eq_some_iff.1 he0).1
  obtain ⟨f, gm, hR, hP⟩ := hQ.Q.ex
  obtain ⟨g, cap, hve, hr⟩ := hR.form (by omega)
  subst hve
  have hfh := hP.at_ i e0 he0
  rw [hh] at hfh
  have hlk := hR.map.lookup_ok und101 Tryd.underlying3 zero3 h
  rw [hfh] at hlk
  simp only [Option.getD_some, Option.isSome_some] at hlk
  have h1 := hR.rec_.cell 1
  have h2 := hR.rec_.cell 2
  have h4 := hR.rec_.cell 4
  have f4 := hR.rec_.frozen 4
  simp at h1 h2 h4
  obtain ⟨i0, i1, i2⟩ := hr.cells i he0
  have hf := fun k => hr.frozenAt k
  have hcap := hr.le.1
  have hqg := hr.ne_blk hR.rec_ (by decide)
  have HR := hide hR
  have HRR := hide hr
  have HP := hide hP
  have HQ := hide hQ
  have HH := hide hH
  have HE := hide he0
  have HX := hide hx
  have HHH := hide hh
  clear hR hP hr hQ hH he0 hfh hx hh
  go_enter Tryd.func57, Tryd.ntmps57
  go_wp2_with fail
  go_region
  go_wp2_with fail
  have hrow := (HRR.out.stored (i * 3) (I e0.x)).1.stored (i * 3 + 2) (I ck)
  have hrow1 : (((w.setCell ⟨g, i * 3, none⟩ (I x)).setCell ⟨g, i * 3 + 2, none⟩ (I ck)).setCell ⟨q, 4, none⟩ (I (wrap64 (ck + 1)))).drew.ownsRow 0 114 3 (.slice (some ⟨g, 0, none⟩) es.length cap) (es.set i ⟨e0.x, e0.h, ck⟩).length (ecells (es.set i ⟨e0.x, e0.h, ck⟩)) := by
    rw [ecells_time HE.out, List.length_set, ← HX.out]
    exact own_drew (own_set_blk hrow.1 ((HR.out.rec_.far (p := ⟨g, i * 3, none⟩) hqg _).far (p := ⟨g, i * 3 + 2, none⟩) hqg _) (by decide) 4 _)
  have hgp : pl ≠ g := (HRR.out.ne_map HR.out.map).symm
  have hq1 : Blk (((w.setCell ⟨g, i * 3, none⟩ (I x)).setCell ⟨g, i * 3 + 2, none⟩ (I ck)).setCell ⟨q, 4, none⟩ (I (wrap64 (ck + 1)))).drew q 104 #[lessF sv, .slice (some ⟨g, 0, none⟩) es.length cap, .map (some pl), I nx, I (wrap64 (ck + 1))] :=
    (((HR.out.rec_.far (p := ⟨g, i * 3, none⟩) hqg _).far (p := ⟨g, i * 3 + 2, none⟩) hqg _).set_ 4 _).drew
  have hm1 : IMap (((w.setCell ⟨g, i * 3, none⟩ (I x)).setCell ⟨g, i * 3 + 2, none⟩ (I ck)).setCell ⟨q, 4, none⟩ (I (wrap64 (ck + 1)))).drew pl f gm :=
    (((HR.out.map.same (Below.heap_setCell w ⟨g, i * 3, none⟩ (I x) pl hgp)).same (Below.heap_setCell _ ⟨g, i * 3 + 2, none⟩ (I ck) pl hgp)).set_blk ((HR.out.rec_.far (p := ⟨g, i * 3, none⟩) hqg _).far (p := ⟨g, i * 3 + 2, none⟩) hqg _) 4 _).drew
  have hk1 : Kp (QF q pl (.slice (some ⟨g, 0, none⟩) es.length cap)) w (((w.setCell ⟨g, i * 3, none⟩ (I x)).setCell ⟨g, i * 3 + 2, none⟩ (I ck)).setCell ⟨q, 4, none⟩ (I (wrap64 (ck + 1)))).drew :=
    ((((Kp.refl _ w).setCell (p := ⟨g, i * 3, none⟩) (.inl (.inr (.inr rfl))) (I x)).setCell (p := ⟨g, i * 3 + 2, none⟩) (.inl (.inr (.inr rfl))) (I ck)).setCell (p := ⟨q, 4, none⟩) (.inl (.inl rfl)) (I (wrap64 (ck + 1)))).drew
  have hA : QAll (((w.setCell ⟨g, i * 3, none⟩ (I x)).setCell ⟨g, i * 3 + 2, none⟩ (I ck)).setCell ⟨q, 4, none⟩ (I (wrap64 (ck + 1)))).drew q pl sv S be N (.slice (some ⟨g, 0, none⟩) es.length cap) best (es.set i ⟨e0.x, e0.h, ck⟩) nx (wrap64 (ck + 1)) := by
    refine ⟨⟨_, _, ⟨hq1, hrow1, hm1⟩, HP.out.time HE.out ck⟩, ?_, ?_⟩
    · obtain ⟨f', gm', hr', _⟩ := HQ.out.Q.ex
      exact HQ.out.B.of_queue hr' hk1
    · intro e he
      rcases List.mem_or_eq_of_mem_set he with h | h
      · exact HQ.out.E e h
      · subst h; exact HQ.out.E e0 (List.mem_of_getElem? HE.out)
  refine (up_any q pl sv S be N (i : Int) best _ _ nx _ (by omega) (by simpa using hil) (by rw [List.length_set]; exact hn) hN _ hA (by rw [Int.toNat_natCast]; exact HH.out.time HE.out ck)).mono ?_
  rintro e w5 ⟨rfl, es5, hp5, hh5, ha5, hk5⟩
  have hlen5 : es5.length ≤ 1000 := by rw [hp5.length_eq, List.length_set]; exact hn
  obtain ⟨f5, gm5, hR5, hP5⟩ := ha5.Q.ex
  obtain ⟨e5, he5, heh⟩ : ∃ e ∈ es5, e.h = h := by
    refine ⟨⟨e0.x, e0.h, ck⟩, hp5.mem_iff.2 (List.mem_iff_getElem?.2 ⟨i, by simp [List.getElem?_set, hil]⟩), HHH.out⟩
  obtain ⟨j, hj⟩ := List.mem_iff_getElem?.1 he5
  have hjl := (List.getElem?_eq_some_iff.1 hj).1
  have hf5 := hP5.at_ j e5 hj
  rw [heh] at hf5
  have hlk5 := hR5.map.lookup und101 Tryd.underlying3 zero3 h
  rw [hf5] at hlk5
  simp only [Option.getD_some] at hlk5
  have c2 := hR5.rec_.cell 2
  simp at c2
  have HK5 := hide (hk1.trans hk5)
  have HP5 := hide (((hp5.map ekey).trans (by rw [set_same_keys HE.out])) : (es5.map ekey).Perm (es.map ekey))
  have HA5 := hide ha5
  have HH5 := hide hh5
  clear h1 h2 h4 i0 i1 i2 hf f4 hlk hrow hrow1 hq1 hm1 hk1 hA hp5 hh5 ha5 hk5 hR5 hP5 he5 heh hj hf5
  go_wp2_with fail
  refine (down_any q pl sv S be N (j : Int) best _ es5 nx _ (by omega) (.inl (by simpa using hjl)) hlen5 hN _ HA5.out (HH5.out.hdown _)).mono ?_
  rintro e w6 ⟨rfl, es6, hp6, hh6, ha6, hk6⟩
  have HK6 := hide (HK5.out.trans hk6)
  have HP6 := hide (((hp6.map ekey).trans HP5.out))
  have HA6 := hide ha6
  have HH6 := hide hh6
  clear hp6 hh6 ha6 hk6 hlk5 c2
  go_wp2
  go_ret
  exact ⟨es6, _, rfl, HP6.out, HH6.out, HA6.out, HK6.out⟩
end Go.Proofs.YtnifpeamgoapmaaDoor
