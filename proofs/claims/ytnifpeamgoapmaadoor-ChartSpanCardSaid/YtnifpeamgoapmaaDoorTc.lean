/- Span -/
import Derived.Test.YtnifpeamgoapmaaDoorM9
import Derived.Test.YtnifpeamgoapmaaDoorM10
set_option linter.unusedVariables false
set_option linter.unusedSimpArgs false
namespace Go.Proofs.YtnifpeamgoapmaaDoor
open Go Go.RowKit

abbrev GramA (G : Gram) (A : Option Addr) (c : Nat) : Value := .agg #[I G.nT, I G.nN, I G.nS, .slice A G.rules.length c]
abbrev LatA (L : Lat) (A : Option Addr) (c : Nat) (F : Option Addr) (d : Nat) : Value := .agg #[I L.st, .slice A L.arcs.length c, .slice F L.fin.length d]

def Grew (W w' : World) : Prop := Below W.heap.size W w'
theorem Grew.refl_ (W : World) : Grew W W = True := eq_true (Below.refl _ _)
theorem Grew.drew_ {W w' : World} (h : Grew W w') : Grew W w'.drew = True := eq_true (Below.drew h)
theorem Grew.alloc_ {W w' : World} (o : Obj) (h : Grew W w') : Grew W (w'.alloc o) = True := eq_true (Below.alloc h (Below.size h) o)
theorem Blk.ch0 (W : World) (o1 o2 o3 o4 : Obj) (t : TypeId) (cs : Array Value) : Blk (((((W.alloc (.cells cs t)).alloc o1).alloc o2).alloc o3).alloc o4).drew W.heap.size t cs := ((((Blk.new W t cs).alloc o1).alloc o2).alloc o3).alloc o4
theorem Blk.ch1 (W : World) (o0 o2 o3 o4 : Obj) (t : TypeId) (cs : Array Value) : Blk (((((W.alloc o0).alloc (.cells cs t)).alloc o2).alloc o3).alloc o4).drew (W.heap.size + 1) t cs := (((Blk.new2 W o0 t cs).alloc o2).alloc o3).alloc o4
theorem Blk.ch2 (W : World) (o0 o1 o3 o4 : Obj) (t : TypeId) (cs : Array Value) : Blk (((((W.alloc o0).alloc o1).alloc (.cells cs t)).alloc o3).alloc o4).drew (W.heap.size + 1 + 1) t cs := ((Blk.new3 W o0 o1 t cs).alloc o3).alloc o4
theorem Blk.ch3 (W : World) (o0 o1 o2 o4 : Obj) (t : TypeId) (cs : Array Value) : Blk (((((W.alloc o0).alloc o1).alloc o2).alloc (.cells cs t)).alloc o4).drew (W.heap.size + 1 + 1 + 1) t cs := by
  have := (Blk.new3 (W.alloc o0) o1 o2 t cs).alloc o4
  rw [World.size_alloc] at this
  exact this
theorem Blk.ch4 (W : World) (o0 o1 o2 o3 : Obj) (t : TypeId) (cs : Array Value) : Blk (((((W.alloc o0).alloc o1).alloc o2).alloc o3).alloc (.cells cs t)).drew (W.heap.size + 1 + 1 + 1 + 1) t cs := by
  have := Blk.new3 ((W.alloc o0).alloc o1) o2 o3 t cs
  rw [World.size_alloc, World.size_alloc] at this
  exact this
theorem below_ch (W : World) (a b c d e : Obj) : Below W.heap.size W (((((W.alloc a).alloc b).alloc c).alloc d).alloc e).drew :=
  ((((((Below.refl _ _).alloc (Nat.le_refl _) _).alloc (by simp) _).alloc (by simp; omega) _).alloc (by simp; omega) _).alloc (by simp; omega) _).drew

/-- the record's cells before its queue is made -/
def rec0 (X : SpanC) (be fi ha : Nat) (RA AA FA CA : Option Addr) (rc ac fc cc : Nat) : Array Value := #[I X.G.nT, I X.G.nN, I X.G.nS, .slice RA X.G.rules.length rc, I X.L.st, .slice AA X.L.arcs.length ac, .slice FA X.L.fin.length fc, I X.C.cN, I X.C.cS, .slice CA X.C.cells.length cc,
  I X.fr, I X.to, .slice (some ⟨be, 0, none⟩) X.G.nN.toNat X.G.nN.toNat, .slice (some ⟨fi, 0, none⟩) X.G.nN.toNat X.G.nN.toNat, .slice (some ⟨ha, 0, none⟩) X.G.nN.toNat X.G.nN.toNat, .pointer none]
/-- behind the record's making -/
structure Born (X : SpanC) (RA AA FA CA : Option Addr) (rc ac fc cc : Nat) (w : World) (sv S be fi ha : Nat) (wx : World) : Prop where
  bsv : Blk wx sv 83 #[PB S]
  bS : Blk wx S 87 (rec0 X be fi ha RA AA FA CA rc ac fc cc)
  bbe : Blk wx be 45 (madeCells #[I 0, I 0] (X.G.nN.toNat * 2))
  bfi : Blk wx fi 4 (madeCells #[.bool false] X.G.nN.toNat)
  bha : Blk wx ha 3 (madeCells #[I 0] X.G.nN.toNat)
  bgb : Blk wx w.heap.size 24 #[I X.G.nT, I X.G.nN, I X.G.nS, .slice RA X.G.rules.length rc]
  bel : Below w.heap.size w wx
  news : w.heap.size ≤ sv ∧ w.heap.size ≤ S ∧ w.heap.size ≤ be ∧ w.heap.size ≤ fi ∧ w.heap.size ≤ ha
/-- the values of a span are found, and each nonterminal's cell is chosen by them -/
def SpanPost (X : SpanC) (w : World) (e : Ending) (w' : World) : Prop :=
  ∃ A c, e = .returned (.slice A X.N c) ∧ ∃ cs, IsCells X cs ∧ Rd w' A X.N 4 (ccells cs) ∧ Below w.heap.size w w' ∧ ∀ b, (Value.slice A X.N c).ownBlock = some b → w.heap.size ≤ b
theorem made_one (v : Value) (n : Nat) : madeCells #[v] n = (List.replicate n v).toArray := by
  apply Array.ext
  · simp [madeCells]
  · intro i h1 h2
    simp [madeCells, Nat.mod_one]
theorem made_two (v : Value) (n : Nat) : madeCells #[v, v] n = (List.replicate n v).toArray := by
  apply Array.ext
  · simp [madeCells]
  · intro i h1 h2
    have : i % 2 = 0 ∨ i % 2 = 1 := by omega
    rcases this with h | h <;> simp [madeCells, h]
theorem vcells_zero : ∀ n : Nat, vcells (List.replicate n ⟨0, 0⟩) = List.replicate (n * 2) (I 0)
  | 0 => rfl
  | n + 1 => by
    have := vcells_zero n
    rw [List.replicate_succ, show (n + 1) * 2 = n * 2 + 1 + 1 by omega, List.replicate_succ, List.replicate_succ, ← this]
    simp [vcells]
theorem made2 (N : Nat) : madeCells #[I 0, I 0] (N * 2) = (vcells (List.replicate N ⟨0, 0⟩)).toArray ∧ madeCells #[Value.bool false] N = ((List.replicate N false).map Value.bool).toArray ∧ madeCells #[I 0] N = ((List.replicate N (0 : Int)).map I).toArray := by
  refine ⟨by rw [made_two, vcells_zero], by rw [made_one, List.map_replicate], by rw [made_one, List.map_replicate]⟩
theorem info47 : (Tryd.prog.info? 47).map (fun i => (i.zero, i.size, i.bytes)) = some (some (.agg #[.int .i64 0, .int .i64 0, .int .i64 0, .int .i64 0]), 4, 32) := by kernel_rfl
theorem ccells_snoc (vs : List Cel) (c : Cel) : ccells (vs ++ [c]) = ccells vs ++ [I c.v.c, I c.v.s, I c.r, I c.a] := by simp [ccells]
/-- behind New and the store -/
structure Fitted (X : SpanC) (m : Mem) (w : World) : Prop where
  bsv : Blk w m.sv 83 #[PB m.S]
  bS : Blk w m.S 87 (recC X m)
  bfi : Blk w m.fi 4 ((List.replicate X.N false).map Value.bool).toArray
  bgb : Blk w m.w0.heap.size 24 #[I X.G.nT, I X.G.nN, I X.G.nS, .slice m.RA X.G.rules.length m.rc]
  que : QS w m.q m.pl (lessF m.sv) (.slice none 0 0) [] 0 0
  bel : Below m.w0.heap.size m.w0 w
  news : m.w0.heap.size ≤ m.S ∧ m.w0.heap.size ≤ m.sv ∧ m.w0.heap.size ≤ m.be ∧ m.w0.heap.size ≤ m.fi ∧ m.w0.heap.size ≤ m.ha ∧ m.w0.heap.size ≤ m.q ∧ m.w0.heap.size ≤ m.pl
theorem Born.fitted {X : SpanC} {RA AA FA CA : Option Addr} {rc ac fc cc : Nat} {w wc w1 : World} {sv S be fi ha q pl : Nat} (h : Born X RA AA FA CA rc ac fc cc w sv S be fi ha wc) (hb : Below wc.heap.size wc w1)
    (hq : QS w1 q pl (lessF sv) (.slice none 0 0) [] 0 0) (hq1 : wc.heap.size ≤ q) (hp1 : wc.heap.size ≤ pl) :
    Fitted X ⟨w, S, sv, be, fi, ha, q, pl, RA, AA, FA, CA, rc, ac, fc, cc⟩ (w1.setCell ⟨S, 15, none⟩ (PB q)) ∧ Blk (w1.setCell ⟨S, 15, none⟩ (PB q)) be 45 (vcells (List.replicate X.N ⟨0, 0⟩)).toArray ∧ Blk (w1.setCell ⟨S, 15, none⟩ (PB q)) ha 3 ((List.replicate X.N (0 : Int)).map I).toArray := by
  obtain ⟨e1, e2, e3⟩ := made2 X.N
  obtain ⟨n1, n2, n3, n4, n5⟩ := h.news
  have hsz := h.bel.size
  have l1 := h.bsv.below hb h.bsv.lt
  have l2 := h.bS.below hb h.bS.lt
  have l3 := h.bbe.below hb h.bbe.lt
  have l4 := h.bfi.below hb h.bfi.lt
  have l5 := h.bha.below hb h.bha.lt
  have l6 := h.bgb.below hb h.bgb.lt
  have hka : Kp (fun k => k = S) w1 (w1.setCell ⟨S, 15, none⟩ (PB q)) := (Kp.refl (fun k => k = S) w1).setCell (p := ⟨S, 15, none⟩) (.inl rfl) _
  obtain ⟨f5, g5, hR5, hP5⟩ := hq.ex
  refine ⟨⟨l1.kp hka (Blk.ne_ l1 l2 (by decide)), ?_, (l4.eq_ e2).kp hka (Blk.ne_ l4 l2 (by decide)), l6.kp hka (Blk.ne_ l6 l2 (by decide)), ⟨f5, g5, hR5.kp hka (fun k hk e => hR5.apart l2 (by decide) (by decide) (e ▸ hk)), hP5⟩, ?_, by simp only; omega⟩, (l3.eq_ e1).kp hka (Blk.ne_ l3 l2 (by decide)), (l5.eq_ e3).kp hka (Blk.ne_ l5 l2 (by decide))⟩
  · exact (l2.set_ 15 (PB q)).eq_ (by simp [rec0, recC, SpanC.N])
  · exact (h.bel.trans (hb.mono hsz)).setCell (show w.heap.size ≤ S from n2) _
/-- .. behind the first loop -/
theorem Fitted.sp {X : SpanC} {m : Mem} {w2 w : World} (h : Fitted X m w2) (hA : ArgsAt m.w0 X m) (hk : Kp (fun k => k = m.be ∨ k = m.ha) w2 w) (h1 : Blk w2 m.be 45 (vcells (List.replicate X.N ⟨0, 0⟩)).toArray) (h2 : Blk w2 m.ha 3 ((List.replicate X.N (0 : Int)).map I).toArray)
    (b1 : Blk w m.be 45 (vcells (List.replicate X.N ⟨Inf, 0⟩)).toArray) (b2 : Blk w m.ha 3 ((List.replicate X.N (-1 : Int)).map I).toArray) :
    SpW w X m (List.replicate X.N ⟨Inf, 0⟩) (List.replicate X.N false) ∧ Blk w m.w0.heap.size 24 #[I X.G.nT, I X.G.nN, I X.G.nS, .slice m.RA X.G.rules.length m.rc] := by
  obtain ⟨n1, n2, n3, n4, n5, n6, n7⟩ := h.news
  have ne : ∀ {g t cs}, Blk w2 g t cs → t ≠ 45 → t ≠ 3 → ¬ (g = m.be ∨ g = m.ha) := fun hg k1 k2 e => by
    rcases e with e | e
    · exact Blk.ne_ hg h1 k1 e
    · exact Blk.ne_ hg h2 k2 e
  obtain ⟨f5, g5, hR5, hP5⟩ := h.que.ex
  have hbel : Below m.w0.heap.size m.w0 w := h.bel.trans (hk.to_below' h.bel.size (fun k hk e => by omega))
  have hrec := h.bS.kp hk (ne h.bS (by decide) (by decide))
  refine ⟨⟨_, .slice none 0 0, [], 0, 0, ⟨hbel, hA, hrec, h.bfi.kp hk (ne h.bfi (by decide) (by decide)), b2, ⟨⟨f5, g5, hR5.kp hk (fun k hk e => ?_), hP5⟩, ⟨by simp, h.bsv.kp hk (ne h.bsv (by decide) (by decide)), ⟨_, hrec, by simp [recC]⟩, b1⟩, fun e he => by simp at he⟩, ?_, HInv.init X.N, by simp, by simp, ?_, by omega, fun k hk => by simp [Value.ownBlock] at hk⟩⟩, h.bgb.kp hk (ne h.bgb (by decide) (by decide))⟩
  · rcases e with e | e
    · exact hR5.apart h1 (by decide) (by decide) (e ▸ hk)
    · exact hR5.apart h2 (by decide) (by decide) (e ▸ hk)
  · intro k p ek ep h0 hp h1 h2 _
    simp at h1
  · intro v hv
    rw [List.mem_replicate] at hv
    rw [hv.2]
    exact vnf_inf
/-- one rule of the first pass -/
theorem rule46 (X : SpanC) (m : Mem) (best : List Vl) (fin : List Bool) (r : NRule) (sb rb : Nat) (w : World) (B : Bds X) (hr : ROK X.G.nT X.G.nN r) (hW : SpW w X m best fin) (hS : Blk w sb 83 #[PB m.S]) (hB : Blk w rb 65 (ruleC r)) :
    Calls Tryd.prog 45 #[PB m.S, RuleA r, .func (.func 46) #[] #[PB sb, PB rb]] w (fun e w' => e = .returned (.tuple #[]) ∧ SpW w' X m (X.pass1 fin best r) fin ∧ KT m w w') := by
  have hD : Doer X m 46 #[PB sb, PB rb] (X.insts r) (fun k W => SpW W X m (((X.insts r).take k).foldl (X.first1 r.h fin) best) fin ∧ Blk W sb 83 #[PB m.S] ∧ Blk W rb 65 (ruleC r) ∧ KT m w W) (fun _ => False) := by
    refine ⟨fun k W W' h hb => ⟨h.1.below hb, h.2.1.below hb h.2.1.lt, h.2.2.1.below hb h.2.2.1.lt, h.2.2.2.below hb⟩, fun k W h => ⟨_, _, h.1⟩, fun W h => h.elim, fun k i hi W A c h hR => ?_⟩
    obtain ⟨h1, h2, h3, h4⟩ := h
    refine (do46 X m _ fin r i sb rb A c W B ⟨hr.h0, hr.h1⟩ (insts_ok B hr i (List.mem_of_getElem? hi)) h1 h2 h3 hR).mono ?_
    rintro e w' ⟨rfl, h5, h6⟩
    have e5 := foldl_take_succ (X.first1 r.h fin) best hi
    rw [← e5] at h5
    exact ⟨true, rfl, fun _ => ⟨h5, h6.blk h1 h2 (by decide) (by decide) (by decide) (by decide) (by decide), h6.blk h1 h3 (by decide) (by decide) (by decide) (by decide) (by decide), h4.trans h6⟩, (fun h => by cases h), fun g cs hg => h6.blk h1 hg (by decide) (by decide) (by decide) (by decide) (by decide)⟩
  refine (inst_46 X m (PB sb) (PB rb) r _ _ w B hr hD ⟨by simpa using hW, hS, hB, Kp.refl _ _⟩).mono ?_
  rintro e w' ⟨rfl, h | h⟩
  · obtain ⟨h1, h2, h3, h4⟩ := h
    rw [List.take_length] at h1
    exact ⟨rfl, h1, h4⟩
  · exact h.elim
set_option maxHeartbeats 16000000 in
theorem span_any (X : SpanC) (RA AA FA CA : Option Addr) (rc ac fc cc : Nat) (w : World) (B : Bds X) (hA : ArgsAt w X ⟨w, 0, 0, 0, 0, 0, 0, 0, RA, AA, FA, CA, rc, ac, fc, cc⟩) :
    Calls Tryd.prog 23 #[GramA X.G RA rc, LatA X.L AA ac FA fc, ChartA X.C.cN X.C.cS CA X.C.cells.length cc, I X.fr, I X.to] w (SpanPost X w) := by
  have hN := toN B
  have n0 := B.n0
  have n1 := B.n1
  have k40 := make40 X.G.nN n0 (by omega)
  have k84 := make84 X.G.nN n0 (by omega)
  have k26 := make26 X.G.nN n0 (by omega)
  have b3 := Blk.new3 w (Obj.cells #[I X.G.nT, I X.G.nN, I X.G.nS, .slice RA X.G.rules.length rc] 24) (Obj.cells #[I X.L.st, .slice AA X.L.arcs.length ac, .slice FA X.L.fin.length fc] 28) 34 #[I X.C.cN, I X.C.cS, .slice CA X.C.cells.length cc]
  have c30 := b3.cell 0
  have c31 := b3.cell 1
  have c32 := b3.cell 2
  have b1 := ((Blk.new w 24 #[I X.G.nT, I X.G.nN, I X.G.nS, .slice RA X.G.rules.length rc]).alloc (Obj.cells #[I X.L.st, .slice AA X.L.arcs.length ac, .slice FA X.L.fin.length fc] 28)).alloc (Obj.cells #[I X.C.cN, I X.C.cS, .slice CA X.C.cells.length cc] 34)
  have b2 := (Blk.new2 w (Obj.cells #[I X.G.nT, I X.G.nN, I X.G.nS, .slice RA X.G.rules.length rc] 24) 28 #[I X.L.st, .slice AA X.L.arcs.length ac, .slice FA X.L.fin.length fc]).alloc (Obj.cells #[I X.C.cN, I X.C.cS, .slice CA X.C.cells.length cc] 34)
  have c10 := b1.cell 0
  have c11 := b1.cell 1
  have c12 := b1.cell 2
  have c13 := b1.cell 3
  have c20 := b2.cell 0
  have c21 := b2.cell 1
  have c22 := b2.cell 2
  simp at c30 c31 c32 c10 c11 c12 c13 c20 c21 c22
  have hb00 := (((Below.refl w.heap.size w).alloc (Nat.le_refl _) (Obj.cells #[I X.G.nT, I X.G.nN, I X.G.nS, .slice RA X.G.rules.length rc] 24)).alloc (by simp) (Obj.cells #[I X.L.st, .slice AA X.L.arcs.length ac, .slice FA X.L.fin.length fc] 28)).alloc (by simp; omega) (Obj.cells #[I X.C.cN, I X.C.cS, .slice CA X.C.cells.length cc] 34)
  have HB1 := hide b1
  have HB00 := hide hb00
  have HA := hide hA
  have HB := hide B
  clear B b3 b1 b2 hb00 hA
  go_enter Tryd.func23, Tryd.ntmps23
  go_wp2_with fail
  go_cut [11] (fun s11 wx => ∃ sv S be fi ha : Nat, s11 = PB sv ∧ Born X RA AA FA CA rc ac fc cc w sv S be fi ha wx)
  case first =>
    have HB1' := HB1.out
    have HB00' := HB00.out
    generalize hW0 : (((w.alloc (Obj.cells #[I X.G.nT, I X.G.nN, I X.G.nS, Value.slice RA X.G.rules.length rc] 24)).alloc (Obj.cells #[I X.L.st, Value.slice AA X.L.arcs.length ac, Value.slice FA X.L.fin.length fc] 28)).alloc (Obj.cells #[I X.C.cN, I X.C.cS, Value.slice CA X.C.cells.length cc] 34)) = W0 at c10 c11 c12 c13 c20 c21 c22 c30 c31 c32 HB1' HB00' ⊢
    have HG := hide HB1'
    have HL := hide HB00'
    clear HB1' HB00' HB1 HB00 hW0 HA HB
    have d10 : ∀ w', Grew W0 w' → w'.cell? ⟨w.heap.size, 0, none⟩ = some (I X.G.nT) := fun w' h => cell_below h c10
    have d11 : ∀ w', Grew W0 w' → w'.cell? ⟨w.heap.size, 1, none⟩ = some (I X.G.nN) := fun w' h => cell_below h c11
    have d12 : ∀ w', Grew W0 w' → w'.cell? ⟨w.heap.size, 2, none⟩ = some (I X.G.nS) := fun w' h => cell_below h c12
    have d13 : ∀ w', Grew W0 w' → w'.cell? ⟨w.heap.size, 3, none⟩ = some (.slice RA X.G.rules.length rc) := fun w' h => cell_below h c13
    have d20 : ∀ w', Grew W0 w' → w'.cell? ⟨w.heap.size + 1, 0, none⟩ = some (I X.L.st) := fun w' h => cell_below h c20
    have d21 : ∀ w', Grew W0 w' → w'.cell? ⟨w.heap.size + 1, 1, none⟩ = some (.slice AA X.L.arcs.length ac) := fun w' h => cell_below h c21
    have d22 : ∀ w', Grew W0 w' → w'.cell? ⟨w.heap.size + 1, 2, none⟩ = some (.slice FA X.L.fin.length fc) := fun w' h => cell_below h c22
    have d30 : ∀ w', Grew W0 w' → w'.cell? ⟨w.heap.size + 1 + 1, 0, none⟩ = some (I X.C.cN) := fun w' h => cell_below h c30
    have d31 : ∀ w', Grew W0 w' → w'.cell? ⟨w.heap.size + 1 + 1, 1, none⟩ = some (I X.C.cS) := fun w' h => cell_below h c31
    have d32 : ∀ w', Grew W0 w' → w'.cell? ⟨w.heap.size + 1 + 1, 2, none⟩ = some (.slice CA X.C.cells.length cc) := fun w' h => cell_below h c32
    clear c10 c11 c12 c13 c20 c21 c22 c30 c31 c32
    go_region_held3 (fun w' => Grew W0 w') ((simp (maxDischargeDepth := 20) only [Grew.refl_, Grew.drew_, Grew.alloc_])) (fail)
    all_goals
      clear k40 k84 k26 d10 d11 d12 d13 d20 d21 d22 d30 d31 d32
      go_wp2_with fail
      go_meet
      apply Exists.intro
      apply Exists.intro
      apply Exists.intro
      apply Exists.intro
      apply Exists.intro
      apply And.intro
      · exact rfl
      apply Born.mk
      · first | exact Blk.ch4 _ _ _ _ _ _ _ | exact Blk.ch3 _ _ _ _ _ _ _ | exact Blk.ch2 _ _ _ _ _ _ _ | exact Blk.ch1 _ _ _ _ _ _ _ | exact Blk.ch0 _ _ _ _ _ _ _
      · first | exact Blk.ch4 _ _ _ _ _ _ _ | exact Blk.ch3 _ _ _ _ _ _ _ | exact Blk.ch2 _ _ _ _ _ _ _ | exact Blk.ch1 _ _ _ _ _ _ _ | exact Blk.ch0 _ _ _ _ _ _ _
      · first | exact Blk.ch0 _ _ _ _ _ _ _ | exact Blk.ch1 _ _ _ _ _ _ _ | exact Blk.ch2 _ _ _ _ _ _ _ | exact Blk.ch3 _ _ _ _ _ _ _ | exact Blk.ch4 _ _ _ _ _ _ _
      · first | exact Blk.ch0 _ _ _ _ _ _ _ | exact Blk.ch1 _ _ _ _ _ _ _ | exact Blk.ch2 _ _ _ _ _ _ _ | exact Blk.ch3 _ _ _ _ _ _ _ | exact Blk.ch4 _ _ _ _ _ _ _
      · first | exact Blk.ch0 _ _ _ _ _ _ _ | exact Blk.ch1 _ _ _ _ _ _ _ | exact Blk.ch2 _ _ _ _ _ _ _ | exact Blk.ch3 _ _ _ _ _ _ _ | exact Blk.ch4 _ _ _ _ _ _ _
      · exact HG.out.below (below_ch _ _ _ _ _ _) HG.out.lt
      · exact HL.out.trans ((below_ch _ _ _ _ _ _).mono HL.out.size)
      · have := HL.out.size
        omega
  case rest =>
    clear c10 c11 c12 c13 c20 c21 c22 c30 c31 c32 k40 k84 k26 HB1 HB00
    obtain ⟨sv, S, be, fi, ha, rfl, hb⟩ := hcut
    have HN := hide hN
    have hNs : X.N ≤ 10 := by omega
    clear hN
    have HBorn := hide hb
    have z0 := hb.bsv.cell 0
    simp at z0
    have m1 : sv ≠ S := Blk.ne_ hb.bsv hb.bS (by decide)
    have m2 := m1.symm
    clear hb
    go_wp2_with fail
    go_region_held3 (fun w' => w'.cell? ⟨sv, 0, none⟩ = some (PB S)) (go_keep) ((go_at_call 43; refine (new_any sv _).mono ?_; rintro e w1 ⟨q, pl, rfl, hq, hb1, hq1, hp1⟩; have hb1 : Below wc.heap.size wc w1 := (by first | exact hb1 | exact ((Below.refl _ _).drew).trans hb1); have HW1 := hide hb1; have HQ := hide hq; have y0 := (HBorn.out.bsv.below hb1 HBorn.out.bsv.lt).cell 0; have bS1 := HBorn.out.bS.below hb1 HBorn.out.bS.lt; have y15 := bS1.cell 15; have f15 := bS1.frozen 15; simp [rec0] at y0 y15; clear bS1 hb1 hq))
    have hfit := HBorn.out.fitted HW1.out HQ.out hq1 hp1
    obtain ⟨m, hm⟩ : ∃ m : Mem, m = ⟨w, S, sv, be, fi, ha, q, pl, RA, AA, FA, CA, rc, ac, fc, cc⟩ := ⟨_, rfl⟩
    rw [← hm] at hfit
    have HAM := hide (show ArgsAt m.w0 X m by rw [hm]; exact ⟨HA.out.rules, HA.out.arcs, HA.out.cells, HA.out.none_⟩)
    have HM := hide hm
    generalize (w1.setCell { block := S, off := 15 } (Value.pointer (some { block := q, off := 0 }))) = w2 at hfit ⊢
    obtain ⟨hf1, hf2, hf3⟩ := hfit
    have HF1 := hide hf1
    have HF2 := hide hf2
    have HF3 := hide hf3
    have e0 : m.w0 = w := by rw [hm]
    have e1 : m.sv = sv := by rw [hm]
    have e2 : m.S = S := by rw [hm]
    have e3 : m.be = be := by rw [hm]
    have e4 : m.ha = ha := by rw [hm]
    have x0 := hf1.bsv.cell 0
    have x12 := hf1.bS.cell 12
    simp [recC] at x0 x12
    rw [e1, e2] at x0
    rw [e2, e3] at x12
    clear hf1 hf2 hf3 hm y0 y15 f15 z0 m1 m2 hq1 hp1 HA
    clear e0 e1 e2 e3 e4
    go_wp2_with fail
    go_loopw [43] (fun s43 wr => ∃ (k : Nat) (bs : List Vl) (hs : List Int), s43 = .int .i64 k ∧ k ≤ X.N ∧ bs.length = X.N ∧ hs.length = X.N ∧ Blk wr be 45 (vcells bs).toArray ∧ Blk wr ha 3 (hs.map I).toArray ∧ (∀ j, j < k → bs[j]? = some ⟨Inf, 0⟩ ∧ hs[j]? = some (-1)) ∧ Kp (fun j => j = m.be ∨ j = m.ha) w2 wr) (fun s43 _ => 20 - (intOf s43).toNat)
    case atStart =>
      have f2 := HF2.out
      have f3 := HF3.out
      refine ⟨0, _, _, rfl, Nat.zero_le _, by simp, by simp, f2, f3, fun j hj => by omega, Kp.refl _ _⟩
    case round =>
      clear x0 x12
      obtain ⟨k, bs, hs, rfl, hk, hbl, hhl, hbb, hbh, hall, hkp⟩ := hrel
      have e0 : m.w0 = w := by rw [HM.out]
      have e1 : m.sv = sv := by rw [HM.out]
      have e2 : m.S = S := by rw [HM.out]
      have e3 : m.be = be := by rw [HM.out]
      have e4 : m.ha = ha := by rw [HM.out]
      have f2 := HF2.out
      have f3 := HF3.out
      rw [← e3] at f2
      rw [← e4] at f3
      have ne : ∀ {g t cs}, Blk w2 g t cs → t ≠ 45 → t ≠ 3 → ¬ (g = m.be ∨ g = m.ha) := fun hg k1 k2 e => by
        rcases e with e | e
        · exact Blk.ne_ hg f2 k1 e
        · exact Blk.ne_ hg f3 k2 e
      have bsv := HF1.out.bsv.kp hkp (ne HF1.out.bsv (by decide) (by decide))
      have bS := HF1.out.bS.kp hkp (ne HF1.out.bS (by decide) (by decide))
      have bgb := HF1.out.bgb.kp hkp (ne HF1.out.bgb (by decide) (by decide))
      have hsp := fun (h1 : k = X.N) => HF1.out.sp HAM.out hkp f2 f3 (by
        rw [e3]
        refine hbb.eq_ ?_
        congr 2
        apply List.ext_getElem?
        intro j
        by_cases hj : j < X.N
        · rw [(hall j (by omega)).1, List.getElem?_replicate, if_pos hj]
        · rw [List.getElem?_eq_none (by omega), List.getElem?_eq_none (by simp; omega)]) (by
        rw [e4]
        refine hbh.eq_ ?_
        congr 2
        apply List.ext_getElem?
        intro j
        by_cases hj : j < X.N
        · rw [(hall j (by omega)).2, List.getElem?_replicate, if_pos hj]
        · rw [List.getElem?_eq_none (by omega), List.getElem?_eq_none (by simp; omega)])
      have hnews := HF1.out.news
      have hbelw : Below m.w0.heap.size m.w0 wr := HF1.out.bel.trans (hkp.to_below' HF1.out.bel.size (fun i hi e => by omega))
      have hnone := HAM.out.none_.below hbelw
      obtain ⟨g0, g1, g2, g3⟩ := hnone
      have gz := World.new_ne m.w0 _ HAM.out.none_.1
      simp only at gz
      rw [e3, e4] at hnews
      have ge0 : be ≠ 0 := by omega
      have ge1 : ha ≠ 0 := by omega
      have ge0' := ge0.symm
      have ge1' := ge1.symm
      rw [e1, e2] at bsv
      rw [e2] at bS
      rw [e0] at bgb
      have q0 := bsv.cell 0
      have q5 := bS.cell 12
      have q7 := bS.cell 14
      simp [recC] at q0 q5 q7
      rw [e3] at q5
      rw [e4] at q7
      have ns : S ≠ be := by rw [← e3]; exact Blk.ne_ bS (by rw [e3]; exact hbb) (by decide)
      have ns2 : S ≠ ha := by rw [← e4]; exact Blk.ne_ bS (by rw [e4]; exact hbh) (by decide)
      have nv : sv ≠ be := by rw [← e3]; exact Blk.ne_ bsv (by rw [e3]; exact hbb) (by decide)
      have nv2 : sv ≠ ha := by rw [← e4]; exact Blk.ne_ bsv (by rw [e4]; exact hbh) (by decide)
      have nb : ha ≠ be := Blk.ne_ hbh hbb (by decide)
      have ns' := ns.symm
      have ns2' := ns2.symm
      have nv' := nv.symm
      have nv2' := nv2.symm
      have nb' := nb.symm
      have HBB := hide hbb
      have HBH := hide hbh
      have HALL := hide hall
      have HKP := hide hkp
      have HSP := hide hsp
      have HGB := hide bgb
      have hcs : (k : Int) < X.N ∨ (X.N : Int) ≤ k := by omega
      rcases hcs with hcs | hcs
      · obtain ⟨b0, hb0⟩ : ∃ b0, bs[k]? = some b0 := ⟨_, List.getElem?_eq_getElem (by omega)⟩
        obtain ⟨h0, hh0⟩ : ∃ h0, hs[k]? = some h0 := ⟨_, List.getElem?_eq_getElem (by omega)⟩
        obtain ⟨v0, v1⟩ := vcells_get bs k hb0
        have y0 := hbb.cell (k * 2)
        have y1 := hbb.cell (k * 2 + 1)
        have y2 := hbh.cell k
        rw [List.getElem?_toArray, v0] at y0
        rw [List.getElem?_toArray, v1] at y1
        rw [List.getElem?_toArray, List.getElem?_map, hh0] at y2
        simp only [Option.map_some] at y2
        have z0 := hbb.frozen (k * 2)
        have z1 := hbb.frozen (k * 2 + 1)
        have z2 := hbh.frozen k
        clear hbb hbh hall hkp hsp bgb hb0 hh0 v0 v1 bsv bS hbelw hnews ne f2 f3 e0 e1 e2 e3 e4 gz
        have hkn : k < X.N := by omega
        go_wp2_with fail
        (refine wp_region_prefix 8 (by kernel_rfl) (by kernel_rfl) ?_; simp only [List.take_succ_cons, List.take_zero, List.drop_succ_cons, List.drop_zero]; (repeat (go_big_quiet_step (fail))); refine wpQuiet_nil ?_)
        go_wp2_with fail
        go_roundw
        case rel =>
          have hkp' := HKP.out
          refine ⟨k + 1, bs.set k ⟨Inf, 0⟩, hs.set k (-1), by simp, by omega, by simp [hbl], by simp [hhl], ?_, ?_, fun j hj => ?_, ?_⟩
          · refine Blk.eq_ ((((HBB.out.set_ (k * 2) _).set_ (k * 2 + 1) _).far (by simp; exact nb.symm) _).drew) ?_
            rw [vcells_set]
            simp
          · refine Blk.eq_ (((((HBH.out.far (by simp; exact nb) _).far (by simp; exact nb) _).set_ k _)).drew) ?_
            rw [List.map_set]
            simp
          · by_cases hjk : j = k
            · subst hjk
              exact ⟨by rw [List.getElem?_set_self (by omega)], by rw [List.getElem?_set_self (by omega)]⟩
            · rw [List.getElem?_set_ne (Ne.symm hjk), List.getElem?_set_ne (Ne.symm hjk)]
              exact HALL.out j (by omega)
          · have e3 : be = m.be := by rw [HM.out]
            have e4 : ha = m.ha := by rw [HM.out]
            exact ((((hkp'.setCell (p := ⟨be, k * 2, none⟩) (.inl (.inl e3)) _).setCell (p := ⟨be, k * 2 + 1, none⟩) (.inl (.inl e3)) _).setCell (p := ⟨ha, k, none⟩) (.inl (.inr e4)) _)).drew
        case measure => simp [intOf]; omega
      · obtain rfl : k = X.N := by omega
        obtain ⟨hsp1, hgb1⟩ := hsp rfl
        have HSP1 := hide hsp1
        have HKT0 := hide (KT.of_below (m := m) (Below.refl wr.heap.size wr))
        rw [e0] at hgb1
        have HGB1 := hide hgb1
        have x3 := hgb1.cell 3
        have eR : m.RA = RA := by rw [HM.out]
        have eR2 : m.rc = rc := by rw [HM.out]
        simp at x3
        rw [eR, eR2] at x3
        have HE := hide (show m.w0 = w ∧ m.sv = sv ∧ m.S = S ∧ m.RA = RA ∧ m.rc = rc from ⟨e0, e1, e2, eR, eR2⟩)
        clear hbb hbh hall hkp hsp bgb bsv bS hbelw hnews ne f2 f3 e0 e1 e2 e3 e4 gz hsp1 hgb1 eR eR2 HSP HGB g0 g1 g2 g3 q0 q5 q7 ns ns2 nv nv2 nb ns' ns2' nv' nv2' nb' ge0 ge1 ge0' ge1' HKP HALL HBB HBH HBorn HW1 HQ
        obtain ⟨wo, hwo⟩ : ∃ wo, wo = wr := ⟨_, rfl⟩
        subst hwo
        go_wp2_with fail
        go_loopw [64] (fun s64 wr => ∃ k : Nat, s64 = .int .i64 k ∧ k ≤ X.G.rules.length ∧ SpW wr X m ((X.G.rules.take k).foldl (X.pass1 (List.replicate X.N false)) (List.replicate X.N ⟨Inf, 0⟩)) (List.replicate X.N false) ∧ Blk wr w.heap.size 24 #[I X.G.nT, I X.G.nN, I X.G.nS, .slice m.RA X.G.rules.length m.rc]) (fun s64 _ => 20 - (intOf s64).toNat)
        case atStart => exact ⟨0, rfl, Nat.zero_le _, HSP1.out, HGB1.out⟩
        case round =>
          clear x3
          obtain ⟨k, rfl, hk, hs, hg⟩ := hrel
          obtain ⟨e0, e1, e2, eR, eR2⟩ := HE.out
          have hrl := HB.out.rl
          have hcs : (k : Int) < X.G.rules.length ∨ (X.G.rules.length : Int) ≤ k := by omega
          have hsv := hs.sv
          rw [e1, e2] at hsv
          have z0 := hsv.cell 0
          simp at z0
          have HSV := hide hsv
          have HGB := hide hg
          have hg1 := hg.cell 1
          simp at hg1
          have hszv := hsv.lt
          have hszg := hg.lt
          rcases hcs with hcs | hcs
          · obtain ⟨r, hr⟩ : ∃ r, X.G.rules[k]? = some r := ⟨_, List.getElem?_eq_getElem (by omega)⟩
            obtain ⟨bb, off, hA, r0, r1, r2, r3, r4, r5⟩ := hs.args.rules.rule k hr
            rw [eR] at hA
            subst hA
            have hrok := HB.out.rules r (List.mem_of_getElem? hr)
            have HB65 := hide (Blk.new wr 65 (ruleC r))
            have HB1 := hide (show Below wr.heap.size wr (wr.alloc (Obj.cells (ruleC r) 65)) from (Below.refl _ _).alloc (Nat.le_refl _) _)
            have hfs := foldl_take_succ (X.pass1 (List.replicate X.N false)) (List.replicate X.N ⟨Inf, 0⟩) hr
            obtain ⟨bk, hbk⟩ : ∃ bk, bk = (X.G.rules.take k).foldl (X.pass1 (List.replicate X.N false)) (List.replicate X.N ⟨Inf, 0⟩) := ⟨_, rfl⟩
            rw [← hbk] at hs hfs
            have HS := hide hs
            have HFS := hide hfs
            have CR := hide (rule46 X m bk (List.replicate X.N false) r sv wr.heap.size (wr.alloc (Obj.cells (ruleC r) 65)) HB.out hrok (hs.below HB1.out) (by rw [e2]; exact hsv.alloc _) HB65.out)
            have CR := CR.out
            rw [e2] at CR
            have CR := hide CR
            obtain ⟨rk, rh, ra, rb, rp, ro⟩ := r
            simp only at r0 r1 r2 r3 r4 r5
            clear hs hr hrok hfs hbk hsv hg hg1 e0 e1 e2 eR eR2
            go_wp2_with (go_at_call 45; refine CR.out.mono ?_; rintro e w3 ⟨rfl, hs3, hk3⟩; have HS3 := hide hs3; have HK3 := hide hk3; clear hs3 hk3)
            go_roundw
            case rel => exact ⟨k + 1, rfl, by omega, by rw [HFS.out]; exact HS3.out, HK3.out.blk (HS.out.below HB1.out) (HGB.out.alloc _) (by decide) (by decide) (by decide) (by decide) (by decide)⟩
            case measure => simp [intOf]; omega
          · obtain rfl : k = X.G.rules.length := by omega
            rw [List.take_length] at hs
            have CS := settle_any X m (KInv X) _ _ wr HB.out (KInv.step HB.out) hs (pass1_ok HB.out)
            rw [e2] at CS
            have CS := hide CS
            have HS := hide hs
            clear hs hg hsv hrl
            go_wp2_with (go_at_call 50; refine CS.out.mono ?_; rintro e w3 ⟨rfl, best, fin, hs3, hK3, hk3, hfin⟩; have hg3 := hk3.blk HS.out HGB.out (by decide) (by decide) (by decide) (by decide) (by decide); have hg31 := hg3.cell 1; have hsv3 := hs3.sv; rw [HE.out.2.1, HE.out.2.2.1] at hsv3; have z3 := hsv3.cell 0; simp at hg31 z3; have HS3 := hide hs3; have HBEST := hide (hK3.best HB.out hfin); clear hk3 hg3 hsv3 hs3 hK3 hfin)
            obtain ⟨i0, hi, hz0, hz1, hz2⟩ := info_parts info47
            go_loopw [15, 77] (fun s15 s77 wr => ∃ (k : Nat) (A1 : Option Addr) (c1 : Nat), s15 = .slice A1 k c1 ∧ s77 = .int .i64 k ∧ k ≤ X.N ∧ wr.ownsRow w3.heap.size 47 4 (.slice A1 k c1) k (ccells ((List.range k).map fun h => X.choose best (h : Nat))) ∧ Below w3.heap.size w3 wr) (fun _ s77 _ => 20 - (intOf s77).toNat)
            case atStart => exact ⟨0, none, 0, rfl, rfl, Nat.zero_le _, ⟨rfl, .inl ⟨rfl, rfl⟩⟩, Below.refl _ _⟩
            case round =>
              obtain ⟨k, A1, c1, rfl, rfl, hk, hown, hb⟩ := hrel
              have HB3 := hide hb
              have HOWN := hide hown
              have z3' := cell_below hb z3
              have hsz3 := hb.size
              have hbl3 : w.heap.size ≤ w3.heap.size := by have := HS3.out.bel.size; rw [HE.out.1] at this; exact this
              clear hown hb z3 hg31
              have hNN := HN.out
              have hkl : (k : Int) < X.G.nN ∨ (X.G.nN ≤ (k : Int)) := by omega
              have hkm : k < X.N ∨ k = X.N := by omega
              have hk2 := hide (show (k : Int) < X.G.nN → k < X.N by omega)
              have hk3 := hide (show X.G.nN ≤ (k : Int) → k = X.N by omega)
              clear hNN hkm
              rcases hkl with hkl | hkl
              · have CC := choose_any X m best fin (k : Int) wr HB.out (HS3.out.below HB3.out) (by omega) (by omega)
                rw [HE.out.2.2.1] at CC
                have hk4 := hk2.out hkl
                clear hk2 hk3
                have hsnoc : ccells ((List.range (k + 1)).map fun h => X.choose best (h : Nat)) = ccells ((List.range k).map fun h => X.choose best (h : Nat)) ++ [I (X.choose best (k : Int)).v.c, I (X.choose best (k : Int)).v.s, I (X.choose best (k : Int)).r, I (X.choose best (k : Int)).a] := by
                  rw [List.range_succ, List.map_append]
                  exact ccells_snoc _ _
                obtain ⟨ce, hce⟩ : ∃ ce, ce = X.choose best (k : Int) := ⟨_, rfl⟩
                rw [← hce] at CC hsnoc
                have HSN := hide hsnoc
                delta CelA at CC
                have CC := hide CC
                have hnum : X.N + 1 ≤ maxLen := by simp [maxLen]; omega
                clear hsnoc hce
                go_wp2_with (first | (go_at_call 51; refine CC.out.mono ?_; rintro e w4 ⟨rfl, hw4⟩) | (at_builtin; refine wpList_append_own _ rfl _ _ 32 rfl w3.heap.size 47 i0 _ 4 32 Tryd.underlying32 hi hz0 hz1 hz2 rfl (by decide) _ _ _ rfl ((own_below HOWN.out hw4).alloc _) ⟨w4.heap.size, 0, none⟩ 1 1 [I ce.v.c, I ce.v.s, I ce.r, I ce.a] rfl rfl (World.news_of_block (heap_alloc_new _ _)) (by simp [Value.oneCell']) (by omega) (by omega) (by simp; have := hw4.size; omega) ?_; intro v' w5 hown5 hgrow5 hiff))
                obtain ⟨g, cap, rfl, _⟩ := World.ownsRow.form hown5 (by omega)
                have HOWN5 := hide hown5
                have HGR := hide hgrow5
                have HW4 := hide hw4
                clear hown5 hgrow5 hw4 hiff
                go_wp2_with fail
                go_roundw
                case rel =>
                  have hs1 := HW4.out.size
                  refine ⟨k + 1, _, _, rfl, rfl, by omega, by rw [HSN.out]; exact HOWN5.out, ?_⟩
                  refine below_grown ((HB3.out.trans (HW4.out.mono HB3.out.size)).alloc (by omega) _) (by simp; omega) HGR.out ?_
                  intro q hq
                  exact own_ge HOWN.out _ hq
                case measure => simp [intOf]; omega
              · have HKE := hide (hk3.out hkl)
                have hd : decide ((k : Int) < X.G.nN) = false := by simp; omega
                clear hk2 hk3 hi hz0 hz1 hz2 hkl hNs hk n0 n1
                go_wp2
                have hke := HKE.out
                subst hke
                go_ret
                have hbe := HS3.out.bel
                rw [HE.out.1] at hbe
                exact ⟨A1, c1, rfl, _, IsCells.of_best HBEST.out, Rd.of_own HOWN.out, hbe.trans (HB3.out.mono hbe.size), fun b hb => Nat.le_trans hbl3 (own_ge HOWN.out b hb)⟩
end Go.Proofs.YtnifpeamgoapmaaDoor
