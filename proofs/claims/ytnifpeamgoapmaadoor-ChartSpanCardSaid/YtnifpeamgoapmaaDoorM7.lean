/- offer: what the steps do to the memory. -/
import Derived.Test.YtnifpeamgoapmaaDoorM5
import Derived.Test.YtnifpeamgoapmaaDoorM6
import Derived.StillTailTactics
set_option linter.unusedVariables false
set_option linter.unusedSimpArgs false
namespace Go.Proofs.YtnifpeamgoapmaaDoor
open Go Go.RowKit

section
variable {w w' : World} {X : SpanC} {m : Mem} {best : List Vl} {fin : List Bool} {han : List Int} {hv : Value} {es : List Ent} {nx ck : Int}
theorem DynAt.apart (h : DynAt w X m best fin han hv es nx ck) {g : Nat} {t : TypeId} {cs : Array Value} (hg : Blk w g t cs) (h1 : t ≠ 104) (h2 : t ≠ 114) : ¬ QF m.q m.pl hv g := by
  obtain ⟨f, gm, hQ, _⟩ := h.q.Q.ex
  exact hQ.apart hg h1 h2
theorem Dyn_len (h : DynAt w X m best fin han hv es nx ck) : 0 ≤ nx ∧ nx ≤ (X.N : Int) ∧ es.length ≤ X.N := by
  have := h.inv.bound h.hlen
  simpa using this
/-- behind the store of a value -/
theorem DynAt.mid (h : DynAt w X m best fin han hv es nx ck) {i : Nat} {v : Vl} (hk : Kp (fun k => k = m.be) w w') (hb : Blk w' m.be 45 (vcells (best.set i v)).toArray) :
    QAll w' m.q m.pl m.sv m.S m.be X.N hv (best.set i v) es nx ck := by
  obtain ⟨f, gm, hQ, hP⟩ := h.q.Q.ex
  have hne : ∀ k, QF m.q m.pl hv k → ¬ k = m.be := fun k hk e => h.apart h.q.B.val (by decide) (by decide) (e ▸ hk)
  refine ⟨⟨f, gm, hQ.kp hk hne, hP⟩, ⟨by rw [List.length_set]; exact h.q.B.len, h.q.B.sv.kp hk (Blk.ne_ h.q.B.sv h.q.B.val (by decide)), ?_, hb⟩, h.q.E⟩
  obtain ⟨cs, h1, h2⟩ := h.q.B.rec_
  exact ⟨cs, h1.kp hk (Blk.ne_ h1 h.q.B.val (by decide)), h2⟩
theorem DynAt.qf_kt (h : DynAt w X m best fin han hv es nx ck) : ∀ k, QF m.q m.pl hv k → (k = m.be ∨ k = m.fi ∨ k = m.ha ∨ k = m.q ∨ k = m.pl ∨ (m.w0.heap.size ≤ k ∧ ∃ cs, Blk w k 114 cs)) := by
  rintro k (e | e | e)
  · exact .inr (.inr (.inr (.inl e)))
  · exact .inr (.inr (.inr (.inr (.inl e))))
  · refine .inr (.inr (.inr (.inr (.inr ⟨h.newh k e.symm, ?_⟩))))
    obtain ⟨f, gm, hQ, _⟩ := h.q.Q.ex
    rcases hQ.row.2 with ⟨rfl, _⟩ | ⟨g, cap, cur, rfl, h0, hh, r⟩
    · simp [Value.ownBlock] at e
    · simp [Value.ownBlock] at e
      subst e
      exact ⟨cur, hh⟩
/-- the whole again, where best, the handles and the queue have turned -/
theorem DynAt.turn (h : DynAt w X m best fin han hv es nx ck) {best' : List Vl} {han' : List Int} {hv' : Value} {es' : List Ent} {nx' ck' : Int}
    (hk : Kp (fun k => k = m.be ∨ k = m.ha ∨ QF m.q m.pl hv k) w w') (hq : QAll w' m.q m.pl m.sv m.S m.be X.N hv' best' es' nx' ck') (hh : Heap (vof best') es') (hi : HInv X.N best' fin han' (es'.map ekey) nx')
    (ha : Blk w' m.ha 3 (han'.map I).toArray) (hl : han'.length = X.N) (hv_ : ∀ v ∈ best', VNF v) (hn : ∀ k, hv'.ownBlock = some k → m.w0.heap.size ≤ k) : SpW w' X m best' fin ∧ KT m w w' := by
  obtain ⟨n1, n2, n3, n4, n5, n6, n7⟩ := h.new
  have hnew : ∀ k, k < m.w0.heap.size → ¬ (k = m.be ∨ k = m.ha ∨ QF m.q m.pl hv k) := by
    rintro k hk (e | e | e | e | e)
    · omega
    · omega
    · omega
    · omega
    · have := h.newh k e.symm; omega
  refine ⟨⟨han', hv', es', nx', ck', ⟨h.bel.trans (hk.to_below' h.bel.size hnew), h.args, ?_, ?_, ha, hq, hh, hi, h.flen, hl, hv_, h.new, hn⟩⟩, hk.mono ?_⟩
  · refine h.rec_.kp hk ?_
    rintro (e | e | e)
    · exact Blk.ne_ h.rec_ h.q.B.val (by decide) e
    · exact Blk.ne_ h.rec_ h.ha (by decide) e
    · exact h.apart h.rec_ (by decide) (by decide) e
  · refine h.fi.kp hk ?_
    rintro (e | e | e)
    · exact Blk.ne_ h.fi h.q.B.val (by decide) e
    · exact Blk.ne_ h.fi h.ha (by decide) e
    · exact h.apart h.fi (by decide) (by decide) e
  · rintro k _ (e | e | e)
    · exact .inl e
    · exact .inr (.inr (.inl e))
    · exact h.qf_kt k e
theorem vof_set_ne {best : List Vl} {i : Nat} {v : Vl} {y : Int} (h0 : 0 ≤ y) (h : y ≠ (i : Int)) : vof (best.set i v) y = vof best y := by
  unfold vof
  rw [List.getD, List.getD, List.getElem?_set_ne (by omega)]
theorem vof_set_self {best : List Vl} {i : Nat} {v : Vl} (h : i < best.length) : vof (best.set i v) (i : Int) = v := by
  unfold vof
  rw [List.getD, Int.toNat_natCast, List.getElem?_set_self h]; rfl
theorem ent_uniq {es : List Ent} (hn : ((es.map ekey).map (·.1)).Nodup) {i j : Nat} {a b : Ent} (hi : es[i]? = some a) (hj : es[j]? = some b) (he : b.x = a.x) : j = i := by
  obtain ⟨hl, e1⟩ := List.getElem?_eq_some_iff.1 hi
  obtain ⟨hl2, e2⟩ := List.getElem?_eq_some_iff.1 hj
  have := (List.nodup_iff_pairwise_ne.1 hn)
  rw [List.pairwise_iff_getElem] at this
  by_cases h : j = i
  · exact h
  · exfalso
    rcases Nat.lt_or_gt_of_ne h with h | h
    · have := this j i (by simpa using hl2) (by simpa using hl) h
      apply this
      simp [e1, e2, he]
    · have := this i j (by simpa using hl) (by simpa using hl2) h
      apply this
      simp [e1, e2, he]
/-- a lower value for an element that lies in the queue -/
theorem DynAt.lower (h : DynAt w X m best fin han hv es nx ck) {i : Nat} {v : Vl} {k : Int} (hi : i < X.N) (hlt : vlt v (vof best (i : Int)) = true) (hf : fin.getD i false = false) (hk : han[i]? = some k) (hk0 : 0 ≤ k) :
    ∃ (j : Nat) (e0 : Ent), es[j]? = some e0 ∧ e0.h = k ∧ e0.x = (i : Int) ∧ HUp (vof (best.set i v)) es j := by
  have hfl : i < fin.length := by rw [h.flen]; exact hi
  have hf' : fin[i]? = some false := by rw [List.getD, List.getElem?_eq_getElem hfl] at hf; rw [List.getElem?_eq_getElem hfl]; simpa using hf
  have hm := h.inv.open_ i k hk hk0 hf'
  obtain ⟨e0, he0, hke⟩ := List.mem_map.1 hm
  obtain ⟨j, hj⟩ := List.getElem?_of_mem he0
  have h1 : e0.x = (i : Int) := congrArg Prod.fst hke
  have h2 : e0.h = k := congrArg Prod.snd hke
  refine ⟨j, e0, hj, h2, h1, h.heap.lower hj (fun j' e hj' hx => ent_uniq h.inv.nd hj hj' hx) (fun e he hne => ?_) ?_⟩
  · exact vof_set_ne (h.q.E e he).1 (by rw [← h1]; exact hne)
  · rw [h1, vof_set_self (by rw [h.q.B.len]; exact hi)]
    exact vle_of_vlt hlt
theorem DynAt.other (h : DynAt w X m best fin han hv es nx ck) {i : Nat} {v : Vl} {k : Int} (hk : han[i]? = some k) (hk0 : k < 0) : Heap (vof (best.set i v)) es := by
  refine h.heap.same fun e he => vof_set_ne (h.q.E e he).1 ?_
  intro hx
  obtain ⟨h1, h2, h3, h4, h5⟩ := h.inv.ent (ekey e) (List.mem_map_of_mem he)
  simp only at h3 h4
  rw [hx, Int.toNat_natCast, hk] at h3
  injection h3 with h3
  omega
end
end Go.Proofs.YtnifpeamgoapmaaDoor
/- offer -/
namespace Go.Proofs.YtnifpeamgoapmaaDoor
open Go Go.RowKit

def Offered (X : SpanC) (m : Mem) (best : List Vl) (fin : List Bool) (w : World) (e : Ending) (w' : World) : Prop := e = .returned (.tuple #[]) ∧ SpW w' X m best fin ∧ KT m w w'

set_option maxHeartbeats 4000000 in
theorem offer_no (X : SpanC) (m : Mem) (best : List Vl) (fin : List Bool) (i : Nat) (v : Vl) (w : World) (B : Bds X) (hW : SpW w X m best fin) (hi : i < X.N)
    (hc : fin.getD i false = true ∨ (fin.getD i false = false ∧ Inf ≤ v.c) ∨ (fin.getD i false = false ∧ v.c < Inf ∧ vlt v (vof best (i : Int)) = false)) :
    Calls Tryd.prog 48 #[PB m.S, I i, VA v] w (Offered X m best fin w) := by
  have r := hW.rec_
  have hN := toN B
  have hfc := hW.fcell (x := (i : Int)) (by omega) (by omega)
  obtain ⟨b0, b1⟩ := hW.bcell (x := (i : Int)) (by omega) (by omega)
  simp only [Int.toNat_natCast] at hfc b0 b1
  have hB := Blk.new w 45 #[I v.c, I v.s]
  have hb0 : Below w.heap.size w (w.alloc (Obj.cells #[I v.c, I v.s] 45)) := (Below.refl _ _).alloc (Nat.le_refl _) _
  have n1 := r.lt
  have l0 := fun y : LW (w.alloc (Obj.cells #[I v.c, I v.s] 45)) => y.cell (hB.cell 0)
  have l1 := fun y : LW (w.alloc (Obj.cells #[I v.c, I v.s] 45)) => y.cell (hB.cell 1)
  have l2 := fun y : LW (w.alloc (Obj.cells #[I v.c, I v.s] 45)) => y.cell ((r.alloc _).cell 12)
  have l3 := fun y : LW (w.alloc (Obj.cells #[I v.c, I v.s] 45)) => y.cell ((r.alloc _).cell 13)
  have l4 := fun y : LW (w.alloc (Obj.cells #[I v.c, I v.s] 45)) => y.cell (cell_below hb0 hfc)
  have l5 := fun y : LW (w.alloc (Obj.cells #[I v.c, I v.s] 45)) => y.cell (cell_below hb0 b0)
  have l6 := fun y : LW (w.alloc (Obj.cells #[I v.c, I v.s] 45)) => y.cell (cell_below hb0 b1)
  simp [recC] at l0 l1 l2 l3
  have HB0 := hide hb0
  have HW := hide hW
  have CL := hide (fun W : World => Less_any v (vof best (i : Int)) W)
  clear hW r hfc b0 b1 hB hb0 hN B
  rcases hc with hc | ⟨hc, hc2⟩ | ⟨hc, hc2, hc3⟩
  · rw [hc] at l4
    clear hc
    go_enter Tryd.func48, Tryd.ntmps48
    go_wp2_with fail
    refine wp_region_later (by kernel_rfl) (by kernel_rfl) ?_
    repeat (go_big_quiet_step (fail))
    refine wpQuiet_nil ?_
    rintro W1 ⟨⟨_, hW1⟩, rfl⟩
    go_wp2
    go_end0
    have hb := HB0.out.trans (hW1.mono HB0.out.size)
    exact ⟨rfl, HW.out.below hb, KT.of_below hb⟩
  · rw [hc] at l4
    unfold Inf at hc2
    clear hc
    go_enter Tryd.func48, Tryd.ntmps48
    go_wp2_with fail
    refine wp_region_later (by kernel_rfl) (by kernel_rfl) ?_
    repeat (go_big_quiet_step (fail))
    refine wpQuiet_nil ?_
    rintro W1 ⟨⟨_, hW1⟩, rfl⟩
    go_wp2
    go_end0
    have hb := HB0.out.trans (hW1.mono HB0.out.size)
    exact ⟨rfl, HW.out.below hb, KT.of_below hb⟩
  · rw [hc] at l4
    have CL := CL.out
    rw [hc3] at CL
    have CL := hide CL
    unfold Inf at hc2
    have hd : decide (1099511627776 ≤ v.c) = false := by simp; omega
    clear hc hc3
    go_enter Tryd.func48, Tryd.ntmps48
    go_wp2_with fail
    refine wp_region_later (by kernel_rfl) (by kernel_rfl) ?_
    repeat (go_big_quiet_step ((go_at_call 40; exact later_call (CL.out _))))
    refine wpQuiet_nil ?_
    rintro W1 ⟨⟨_, hW1⟩, rfl⟩
    go_wp2
    go_end0
    have hb := HB0.out.trans (hW1.mono HB0.out.size)
    exact ⟨rfl, HW.out.below hb, KT.of_below hb⟩
end Go.Proofs.YtnifpeamgoapmaaDoor
