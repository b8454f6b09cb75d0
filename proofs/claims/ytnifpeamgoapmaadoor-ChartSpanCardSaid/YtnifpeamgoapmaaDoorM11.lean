/- copy of elements of several cells, as one step of a region. -/
import Derived.Test.YtnifpeamgoapmaaDoorTc
import Derived.Test.YtnifpeamgoapmaaDoorM10
import Derived.Laws.CopyOwn
set_option linter.unusedVariables false
set_option linter.unusedSimpArgs false
namespace Go.Proofs.YtnifpeamgoapmaaDoor
open Go Go.RowKit

theorem run_copy_sz {P : Program} (w : World) (dT sT ty elem : TypeId) (sz n g o dLen dCap : Nat) (a : Addr) (sLen sCap : Nat) (cur : Array Value) (t : TypeId) (cs : List Value)
    (hu : P.underlying dT = some (.slice elem)) (hs : (P.info? elem).map (·.size) = some sz)
    (hg : w.heap[g]? = some (.cells cur t (0, 0))) (hn : n = Nat.min sLen dLen) (hcs : cs.length = n * sz)
    (hsrc : ∀ j v, cs[j]? = some v → w.cell? (a.add j) = some v) (hfit : o + cs.length ≤ cur.size) (h1 : ∀ v ∈ cs, v.oneCell' = true) :
    (Builtin.copy_ #[dT, sT] ty #[.slice (some ⟨g, o, none⟩) dLen dCap, .slice (some a) sLen sCap]).run P w =
      .ok (goInt n) (w.setRow g (cur.toList.take o ++ cs ++ cur.toList.drop (o + cs.length)).toArray) := by
  have hl := run_loadCells_list (P := P) w a cs hsrc
  have hst := run_storeCells_at P g o t cs 0 cur w hg (by simpa using hfit) h1
  cases hq : P.info? elem with
  | none => simp [hq] at hs
  | some i =>
    have hi : i.size = sz := by simpa [hq] using hs
    rw [hcs] at hl
    simp [Builtin.copy_, run_underlying hu, Builtin.lenOf, Builtin.firstCells, sizeOf, typeInfo, hq, hi, ← hn, hl, hst]
theorem Kp.setRow {F : Nat → Prop} {a w : World} (h : Kp F a w) {g : Nat} (hg : F g) (cs : Array Value) : Kp F a (w.setRow g cs) :=
  ⟨h.os, h.tape, h.output, by simpa [World.setRow] using h.size, fun i hi hf => (setRow_other w g i cs (fun e => hf (e ▸ hg))).trans (h.block i hi hf)⟩
theorem step_copy_blk {P : Program} {ops : Array Oper} {o : Oper} {a : Act} {w : World} {K : Act → World → Prop} {Q : Exit → Act → World → Prop} {E : Prop} (hgd : o.guard = none) (d s : Operand) (dT sT : TypeId)
    (ho : o.op = .call { callee := .builtin .copy, args := #[d, s], argTypes := #[dT, sT] }) (elem : TypeId) (hu : P.underlying dT = some (.slice elem)) (sz n : Nat) (hsz : (P.info? elem).map (·.size) = some sz)
    (g off dLen dCap : Nat) (ad : Addr) (sLen sCap : Nat) (hd : a.eval d = .slice (some ⟨g, off, none⟩) dLen dCap) (hs : a.eval s = .slice (some ad) sLen sCap)
    (cur : List Value) (t : TypeId) (hg : Blk w g t cur.toArray) (cs : List Value) (hn : n = Nat.min sLen dLen) (hcs : cs.length = n * sz)
    (hsrc : ∀ j v, cs[j]? = some v → w.cell? (ad.add j) = some v) (hfit : off + cs.length ≤ cur.length) (h1 : ∀ v ∈ cs, v.oneCell' = true)
    (h : ∀ w', Hid (Blk w' g t (cur.take off ++ cs ++ cur.drop (off + cs.length)).toArray) → Hid (Kp (fun k => k = g) w w') → K (a.put o.dst (goInt n)) w') :
    if Region.wanted o (yielded ops a.tmps) = true then Oper.wp P o a w K Q else E := by
  have hw : Region.wanted o (yielded ops a.tmps) = true := by simp [Region.wanted, hgd]
  rw [if_pos hw]
  have hrun := run_copy_sz (P := P) w dT sT o.type elem sz n g off dLen dCap ad sLen sCap cur.toArray t cs hu hsz hg hn hcs hsrc (by simpa using hfit) h1
  unfold Oper.wp
  simp [execOp, ho, resolve, invoke, builtin, hd, hs, hrun, Result.andThen]
  refine h _ ?_ ?_
  · have := setRow_heap w g cur.toArray (cur.take off ++ cs ++ cur.drop (off + cs.length)).toArray t (0, 0) hg
    show Blk _ g t _
    unfold Blk
    simpa using this
  · exact (Kp.refl (fun k => k = g) w).setRow rfl _
theorem two_row (S : Nat) : (S : Int) * ((S : Int) + 1) = 2 * ((row S S : Nat) : Int) := by
  obtain ⟨k, hk⟩ := sq_even S
  rw [count_nat, Int.mul_add]
  simp
  generalize (S : Int) * S = P at *
  omega
/-- the number of cells, as the code finds it -/
theorem count_wrap {N S : Nat} (hN : N ≤ 10) (hS : S ≤ 9) : wrap64 ((wrap64 (wrap64 ((N : Int) * (S : Int)) * ((S : Int) + 1))).tdiv 2) = ((row S S * N : Nat) : Int) := by
  have h1 : N * S ≤ 10 * 9 := Nat.mul_le_mul hN hS
  have h2 : ((N : Int) * (S : Int)) * ((S : Int) + 1) = 2 * ((row S S * N : Nat) : Int) := by
    rw [Int.mul_assoc, two_row, Int.natCast_mul, ← Int.mul_assoc, Int.mul_comm (N : Int) 2, Int.mul_assoc, Int.mul_comm (N : Int)]
  have h3 : row S S * N ≤ 45 * 10 := Nat.mul_le_mul (row9 hS) hN
  rw [w64 (n := (N : Int) * (S : Int)) (by rw [← Int.natCast_mul]; omega), h2, w64 (n := 2 * ((row S S * N : Nat) : Int)) (by omega), Int.tdiv_eq_ediv_of_nonneg (by omega)]
  rw [w64 (by omega)]
  omega
def zeroC : Cel := ⟨⟨0, 0⟩, 0, 0⟩
end Go.Proofs.YtnifpeamgoapmaaDoor
/- Build -/
namespace Go.Proofs.YtnifpeamgoapmaaDoor
open Go Go.RowKit

theorem made_four (v : Value) (n : Nat) : madeCells #[v, v, v, v] n = (List.replicate n v).toArray := by
  apply Array.ext
  · simp [madeCells]
  · intro i h1 h2
    have : i % 4 = 0 ∨ i % 4 = 1 ∨ i % 4 = 2 ∨ i % 4 = 3 := by omega
    rcases this with h | h | h | h <;> simp [madeCells, h]
theorem ccells_zero : ∀ n : Nat, ccells (List.replicate n zeroC) = List.replicate (n * 4) (I 0)
  | 0 => rfl
  | n + 1 => by
    have := ccells_zero n
    rw [List.replicate_succ, show (n + 1) * 4 = n * 4 + 1 + 1 + 1 + 1 by omega, List.replicate_succ, List.replicate_succ, List.replicate_succ, List.replicate_succ, ← this]
    simp [ccells, zeroC]
theorem make32 (n : Nat) (h1 : n ≤ 1000) (w : World) : (Instr.makeSlice 32 (.int .i64 (n : Int)) (.int .i64 (n : Int))).run Tryd.prog w = .ok (.slice (some ⟨w.heap.size, 0, none⟩) n n) (w.alloc (.cells (ccells (List.replicate n zeroC)).toArray 47)) := by
  obtain ⟨i0, hi, hz0, hz1, hz2⟩ := info_parts info47
  have := run_make w 32 47 i0 _ Tryd.underlying32 hi hz0 .i64 .i64 (n : Int) (n : Int) (by omega) (Int.le_refl _) (by rw [hz2]; omega) (by omega)
  rw [hz1] at this
  rw [this]
  simp only [Int.toNat_natCast]
  rw [ccells_zero, ← made_four]
  rfl

theorem below5_ (W : World) (a b c d e : Obj) : Below W.heap.size W (((((W.alloc a).alloc b).alloc c).alloc d).alloc e) :=
  (((((Below.refl _ _).alloc (Nat.le_refl _) _).alloc (by simp) _).alloc (by simp; omega) _).alloc (by simp; omega) _).alloc (by simp; omega) _
/-- what Build gives -/
def BuiltC (G : Gram) (L : Lat) (w : World) (e : Ending) (w' : World) : Prop :=
  ∃ A c cs, e = .returned (ChartA G.nN L.st A cs.length c) ∧ IsChart G L cs ∧ Rd w' A cs.length 4 (ccells cs) ∧ Below w.heap.size w w' ∧ (∀ b o, A = some ⟨b, o, none⟩ → w.heap.size ≤ b) ∧ cs.length ≤ c
structure GArgs (w : World) (G : Gram) (L : Lat) (RA AA : Option Addr) : Prop where
  rules : Rd w RA G.rules.length 6 (rcells G.rules)
  arcs : ArcsAt w AA L.arcs
  none_ : NoneAt w
theorem GArgs.below {w w' : World} {G : Gram} {L : Lat} {RA AA : Option Addr} (h : GArgs w G L RA AA) (hb : Below w.heap.size w w') : GArgs w' G L RA AA := ⟨h.rules.below hb, h.arcs.below hb, h.none_.below hb⟩

theorem ccells_append (a b : List Cel) : ccells (a ++ b) = ccells a ++ ccells b := by simp [ccells]
theorem ccells_take (cs : List Cel) : ∀ k : Nat, (ccells cs).take (k * 4) = ccells (cs.take k) := by
  induction cs with
  | nil => intro k; simp [ccells]
  | cons c cs ih =>
    intro k
    cases k with
    | zero => simp [ccells]
    | succ k =>
      have := ih k
      rw [show (k + 1) * 4 = k * 4 + 4 by omega]
      simp only [ccells, List.flatMap_cons, List.take_succ_cons] at this ⊢
      rw [List.take_append]
      simp [this]
theorem ccells_drop (cs : List Cel) : ∀ k : Nat, (ccells cs).drop (k * 4) = ccells (cs.drop k) := by
  induction cs with
  | nil => intro k; simp [ccells]
  | cons c cs ih =>
    intro k
    cases k with
    | zero => simp [ccells]
    | succ k =>
      have := ih k
      rw [show (k + 1) * 4 = k * 4 + 4 by omega]
      simp only [ccells, List.flatMap_cons, List.drop_succ_cons] at this ⊢
      rw [List.drop_append]
      simp [this]
theorem ccells_put (cs A : List Cel) (q : Nat) : (ccells cs).take (q * 4) ++ ccells A ++ (ccells cs).drop (q * 4 + (ccells A).length) = ccells (putAt cs q A) := by
  unfold putAt
  rw [ccells_append, ccells_append, ccells_take, ccells_length, show q * 4 + A.length * 4 = (q + A.length) * 4 by omega, ccells_drop]
theorem ccells_one (cs : List Cel) : ∀ v ∈ ccells cs, v.oneCell' = true := by
  intro v hv
  unfold ccells at hv
  rw [List.mem_flatMap] at hv
  obtain ⟨c, _, h⟩ := hv
  simp only [List.mem_cons, List.not_mem_nil, or_false] at h
  rcases h with rfl | rfl | rfl | rfl <;> rfl
/-- Build under way; g0: the size at the start -/
structure BInv (G : Gram) (L : Lat) (RA AA FA : Option Addr) (rc ac fc : Nat) (w : World) (cs : List Cel) (wr : World) : Prop where
  b24 : Blk wr w.heap.size 24 #[I G.nT, I G.nN, I G.nS, .slice RA G.rules.length rc]
  b28 : Blk wr (w.heap.size + 1) 28 #[I L.st, .slice AA L.arcs.length ac, .slice FA L.fin.length fc]
  bres : Blk wr (w.heap.size + 1 + 1) 34 #[I 0, I 0, .slice none 0 0]
  bch : Blk wr (w.heap.size + 1 + 1 + 1) 34 #[I G.nN, I L.st, .slice (some ⟨w.heap.size + 1 + 1 + 1 + 1, 0, none⟩) cs.length cs.length]
  bg : Blk wr (w.heap.size + 1 + 1 + 1 + 1) 47 (ccells cs).toArray
  bel : Below w.heap.size w wr

/-- Span's answer, its cells at an address -/
def SpanAt (X : SpanC) (N : Nat) (w : World) (e : Ending) (w' : World) : Prop :=
  ∃ ab ao c AL, e = .returned (.slice (some ⟨ab, ao, none⟩) N c) ∧ IsCells X AL ∧ (ccells AL).length = N * 4 ∧ (∀ j u, (ccells AL)[j]? = some u → w'.cell? ⟨ab, ao + j, none⟩ = some u) ∧ Below w.heap.size w w'
theorem SpanPost.at_ {X : SpanC} {N : Nat} {w w' : World} {e : Ending} (h : SpanPost X w e w') (hN : X.N = N) (h0 : 0 < N) : SpanAt X N w e w' := by
  obtain ⟨A, c, rfl, cs, h1, h2, h3, _⟩ := h
  rw [hN] at h2 ⊢
  obtain ⟨ab, ao, rfl, h4⟩ := h2.2 h0
  exact ⟨ab, ao, c, cs, rfl, h1, h2.1, h4, h3⟩
set_option maxRecDepth 100000 in
set_option maxHeartbeats 16000000 in
theorem build_any (G : Gram) (L : Lat) (RA AA FA : Option Addr) (rc ac fc : Nat) (w : World) (B : GBds G L) (hA : GArgs w G L RA AA) :
    Calls Tryd.prog 14 #[GramA G RA rc, LatA L AA ac FA fc] w (BuiltC G L w) := by
  obtain ⟨N, hN⟩ := Int.eq_ofNat_of_zero_le (show 0 ≤ G.nN by have := B.n0; omega)
  obtain ⟨S, hS⟩ := Int.eq_ofNat_of_zero_le (show 0 ≤ L.st by have := B.s0; omega)
  have hN1 : N ≤ 10 := by have := B.n1; omega
  have hS1 : S ≤ 9 := by have := B.s1; omega
  have hcw := count_wrap hN1 hS1
  have hnb : row S S * N ≤ 45 * 10 := Nat.mul_le_mul (row9 hS1) hN1
  have hqb : ∀ f t, f ≤ t → t < S → qN S f t * N + N ≤ row S S * N := fun f t h1 h2 => by
    have h3 : (qN S f t + 1) * N ≤ row S S * N := Nat.mul_le_mul_right N (by have := qN_lt h1 h2; omega)
    rw [Nat.add_mul] at h3
    omega
  obtain ⟨n, hn⟩ : ∃ n, n = row S S * N := ⟨_, rfl⟩
  rw [← hn] at hcw hnb hqb
  have hmk := make32 n (by omega)
  have HQB := hide hqb
  have HNN := hide hn
  clear hn hqb
  have HN := hide hN
  have HS := hide hS
  obtain ⟨nT, nN, nS, rules⟩ := G
  obtain ⟨st, arcs, fin⟩ := L
  simp only at hN hS
  subst hN
  subst hS
  have HA := hide hA
  have HB := hide B
  clear hA B
  go_enter Tryd.func14, Tryd.ntmps14
  go_wp2_with fail
  go_loopw [27] (fun s27 wr => ∃ (k : Nat) (cs : List Cel), s27 = .int .i64 k ∧ k ≤ S ∧ cs.length = n ∧ BInv ⟨nT, (N : Int), nS, rules⟩ ⟨(S : Int), arcs, fin⟩ RA AA FA rc ac fc w cs wr ∧ Part ⟨nT, (N : Int), nS, rules⟩ ⟨(S : Int), arcs, fin⟩ cs (fun f t => t - f < k)) (fun s27 _ => 20 - (intOf s27).toNat)
  case atStart =>
    refine ⟨0, List.replicate n zeroC, rfl, Nat.zero_le _, by simp, ?_, ⟨by rw [List.length_replicate]; exact HNN.out, fun c hc => ?_, fun f t h1 h2 h3 => by omega⟩⟩
    · have e : (List.replicate n zeroC).length = n := by simp
      refine ⟨Blk.ch0 _ _ _ _ _ _ _, Blk.ch1 _ _ _ _ _ _ _, Blk.ch2 _ _ _ _ _ _ _, ?_, Blk.ch4 _ _ _ _ _ _ _, below5_ _ _ _ _ _ _⟩
      rw [e]
      exact Blk.ch3 _ _ _ _ _ _ _
    · rw [List.mem_replicate] at hc
      rw [hc.2]
      simp [zeroC, VNF, VOK, Inf]
  case round =>
    obtain ⟨k, cs, rfl, hk, hlen, hI, hP⟩ := hrel
    have hcs : (k : Int) < S ∨ (S : Int) ≤ k := by omega
    have HI := hide hI
    have HP := hide hP
    have c0 := hI.b28.cell 0
    simp at c0
    rcases hcs with hcs | hcs
    · clear hI hP
      obtain ⟨wo, hwo⟩ : ∃ wo, wo = wr := ⟨_, rfl⟩
      subst hwo
      go_wp2_with fail
      go_loopw [7] (fun s7 wr => ∃ (f : Nat) (cs : List Cel), s7 = .int .i64 f ∧ f + k ≤ S ∧ cs.length = n ∧ BInv ⟨nT, (N : Int), nS, rules⟩ ⟨(S : Int), arcs, fin⟩ RA AA FA rc ac fc w cs wr ∧ Part ⟨nT, (N : Int), nS, rules⟩ ⟨(S : Int), arcs, fin⟩ cs (fun f' t => t - f' < k ∨ (t - f' = k ∧ f' < f))) (fun s7 _ => 20 - (intOf s7).toNat)
      case atStart => exact ⟨0, cs, rfl, by omega, hlen, HI.out, HP.out.mono fun f t h1 h2 h3 => by omega⟩
      case round =>
        clear c0 hlen HI HP
        obtain ⟨f, cs1, rfl, hf, hlen1, hI1, hP1⟩ := hrel
        have c0 := hI1.b28.cell 0
        simp at c0
        have hcs : (f : Int) + (k : Int) < S ∨ (S : Int) ≤ (f : Int) + (k : Int) := by omega
        rcases hcs with hcs | hcs
        · have hbnd : f + k < S := by omega
          obtain ⟨q, hq⟩ : ∃ q, q = qN S f (f + k) * N := ⟨_, rfl⟩
          have hqn := HQB.out f (f + k) (by omega) hbnd
          rw [← hq] at hqn
          have hN0 : 0 < N := by have := HB.out.n0; simp only at this; omega
          have hwr : IntKind.i64.wrap ((f : Int) + (k : Int)) = (f : Int) + (k : Int) := by rw [IntKind.wrap_i64]; omega
          have CO := hide (fun W => by
            have := offset_any (N : Int) (S : Int) (f : Int) ((f : Int) + (k : Int)) (some ⟨w.heap.size + 1 + 1 + 1 + 1, 0, none⟩) n n W (by omega) (by omega) (by omega) (by omega) (by omega) (by omega) (by omega)
            rw [show (f : Int) + (k : Int) = ((f + k : Nat) : Int) by simp, off_nat (by omega) hbnd, ← hq] at this
            rw [show ((f + k : Nat) : Int) = (f : Int) + (k : Int) by simp, ← hwr] at this
            exact this)
          have hB1 := HB.out.span (cs := cs1) hP1.len hP1.nf (f := f) (t := f + k) (by omega) hbnd
          have hR1 : Rd wr (some ⟨w.heap.size + 1 + 1 + 1 + 1, 0, none⟩) cs1.length 4 (ccells cs1) := Rd.of_blk (c := 0) hI1.bg (ccells_length _)
          have CS := hide (fun W (hb : Below wr.heap.size wr W) => by
            have := span_any (spanOf ⟨nT, (N : Int), nS, rules⟩ ⟨(S : Int), arcs, fin⟩ cs1 f (f + k)) RA AA FA (some ⟨w.heap.size + 1 + 1 + 1 + 1, 0, none⟩) rc ac fc n W hB1 ⟨(HA.out.rules.below hI1.bel).below hb, (HA.out.arcs.below hI1.bel).below hb, hR1.below hb, (HA.out.none_.below hI1.bel).below hb⟩
            rw [show (spanOf ⟨nT, (N : Int), nS, rules⟩ ⟨(S : Int), arcs, fin⟩ cs1 f (f + k)).to = IntKind.i64.wrap ((f : Int) + (k : Int)) by rw [hwr]; simp [spanOf]] at this
            exact (show Calls Tryd.prog 23 #[.agg #[I nT, I (N : Int), I nS, .slice RA rules.length rc], .agg #[I (S : Int), .slice AA arcs.length ac, .slice FA fin.length fc], .agg #[I (N : Int), I (S : Int), .slice (some ⟨w.heap.size + 1 + 1 + 1 + 1, 0, none⟩) cs1.length n], I (f : Int), I (IntKind.i64.wrap ((f : Int) + (k : Int)))] W (SpanAt (spanOf ⟨nT, (N : Int), nS, rules⟩ ⟨(S : Int), arcs, fin⟩ cs1 f (f + k)) N W) from this.mono (fun e w' h => h.at_ rfl hN0)))
          have CS' := CS.out
          rw [hlen1] at CS'
          have CS := hide CS'
          clear CS'
          have HG := hide hI1.bg
          have hch := hI1.bch
          have h24 := hI1.b24
          have h28 := hI1.b28
          have hgc := hI1.bg
          rw [hlen1] at hch
          have ng1 := Blk.ne_ hch hgc (by decide)
          have ng2 := Blk.ne_ h24 hgc (by decide)
          have ng3 := Blk.ne_ h28 hgc (by decide)
          have dc0 : ∀ w', Kp (fun i => i = w.heap.size + 1 + 1 + 1 + 1) wr w' → w'.cell? ⟨w.heap.size + 1 + 1 + 1, 0, none⟩ = some (I (N : Int)) := fun w' h => by have := (hch.kp h ng1).cell 0; simpa using this
          have dc1 : ∀ w', Kp (fun i => i = w.heap.size + 1 + 1 + 1 + 1) wr w' → w'.cell? ⟨w.heap.size + 1 + 1 + 1, 1, none⟩ = some (I (S : Int)) := fun w' h => by have := (hch.kp h ng1).cell 1; simpa using this
          have dc2 : ∀ w', Kp (fun i => i = w.heap.size + 1 + 1 + 1 + 1) wr w' → w'.cell? ⟨w.heap.size + 1 + 1 + 1, 2, none⟩ = some (.slice (some ⟨w.heap.size + 1 + 1 + 1 + 1, 0, none⟩) n n) := fun w' h => by have := (hch.kp h ng1).cell 2; simpa using this
          have dg0 : ∀ w', Kp (fun i => i = w.heap.size + 1 + 1 + 1 + 1) wr w' → w'.cell? ⟨w.heap.size, 0, none⟩ = some (I nT) := fun w' h => by have := (h24.kp h ng2).cell 0; simpa using this
          have dg1 : ∀ w', Kp (fun i => i = w.heap.size + 1 + 1 + 1 + 1) wr w' → w'.cell? ⟨w.heap.size, 1, none⟩ = some (I (N : Int)) := fun w' h => by have := (h24.kp h ng2).cell 1; simpa using this
          have dg2 : ∀ w', Kp (fun i => i = w.heap.size + 1 + 1 + 1 + 1) wr w' → w'.cell? ⟨w.heap.size, 2, none⟩ = some (I nS) := fun w' h => by have := (h24.kp h ng2).cell 2; simpa using this
          have dg3 : ∀ w', Kp (fun i => i = w.heap.size + 1 + 1 + 1 + 1) wr w' → w'.cell? ⟨w.heap.size, 3, none⟩ = some (.slice RA rules.length rc) := fun w' h => by have := (h24.kp h ng2).cell 3; simpa using this
          have dl0 : ∀ w', Kp (fun i => i = w.heap.size + 1 + 1 + 1 + 1) wr w' → w'.cell? ⟨w.heap.size + 1, 0, none⟩ = some (I (S : Int)) := fun w' h => by have := (h28.kp h ng3).cell 0; simpa using this
          have dl1 : ∀ w', Kp (fun i => i = w.heap.size + 1 + 1 + 1 + 1) wr w' → w'.cell? ⟨w.heap.size + 1, 1, none⟩ = some (.slice AA arcs.length ac) := fun w' h => by have := (h28.kp h ng3).cell 1; simpa using this
          have dl2 : ∀ w', Kp (fun i => i = w.heap.size + 1 + 1 + 1 + 1) wr w' → w'.cell? ⟨w.heap.size + 1, 2, none⟩ = some (.slice FA fin.length fc) := fun w' h => by have := (h28.kp h ng3).cell 2; simpa using this
          have HI1 := hide hI1
          have HP1 := hide hP1
          have HQ := hide hq
          have HL1 := hide hlen1
          have hz47 : (Tryd.prog.info? 47).map (·.size) = some 4 := by kernel_rfl
          have HZ47 := hide hz47
          have hqlt : q < n := by omega
          have hq0 : (0 : Int) ≤ (q : Int) := by omega
          have hq1 : (q : Int) ≤ (n : Int) := by omega
          have hq2 : q ≤ n := by omega
          have hq3 : ¬ (n = q) := by omega
          clear hI1 hP1 hq hR1 hB1 hch h24 h28 hgc ng1 ng2 ng3 hlen1 hz47 hwr
          go_wp2_with fail
          go_region_held3 (fun w' => Kp (fun i => i = w.heap.size + 1 + 1 + 1 + 1) wr w') ((first | assumption | exact (Kp.refl _ _).drew)) ((first | (go_at_call 33; refine (CO.out _).mono ?_; rintro e wo_ ⟨rfl, hwo⟩; have HWO := hide (show Below wr.heap.size wr wo_ from (by first | exact hwo | exact ((Below.refl _ _).drew).trans hwo)); have hk1 : Kp (fun i => i = w.heap.size + 1 + 1 + 1 + 1) wr wo_ := Kp.of_below HWO.out) | (go_at_call 23; refine (CS.out _ (by first | exact HWO.out | exact (Below.refl _ _).drew | exact Below.refl _ _)).mono ?_; rintro e ws_ ⟨ab, ao, cA, AL, rfl, hAL, hRA, hsrc, hws⟩; have HWS := hide (show Below wr.heap.size wr ws_ from HWO.out.trans (hws.mono HWO.out.size)); have hk2 : Kp (fun i => i = w.heap.size + 1 + 1 + 1 + 1) wr ws_ := Kp.of_below HWS.out; have HAL := hide hAL; have HRA := hide hRA; have HSRC := hide hsrc; clear hAL hRA hsrc hws; dsimp only) | (refine step_copy_blk rfl (.tmp 46) (.tmp 54) 32 32 rfl 47 Tryd.underlying32 4 N HZ47.out (w.heap.size + 1 + 1 + 1 + 1) (q * 4) (n - q) (n - q) ⟨ab, ao, none⟩ N cA (by rfl) (by rfl) (ccells cs1) 47 (HG.out.below HWS.out HG.out.lt) (ccells AL) (by show N = min N (n - q); omega) HRA.out (fun j v hj => by rw [show (⟨ab, ao, none⟩ : Addr).add j = ⟨ab, ao + j, none⟩ by simp [Addr.add]]; exact HSRC.out j v hj) (by rw [HRA.out, ccells_length, HL1.out]; omega) (ccells_one _) ?_; intro wcp HCP HKP; have hk3 : Kp (fun i => i = w.heap.size + 1 + 1 + 1 + 1) wr wcp := hk2.trans HKP.out)))
          clear CO CS
          go_wp2_with fail
          go_roundw
          case rel =>
            have hAc := HAL.out
            have hAl : AL.length = N := hAc.len
            have hqo := HQ.out
            have hcp := HCP.out
            rw [ccells_put] at hcp
            have hpl : (putAt cs1 q AL).length = n := by rw [putAt_len (by rw [hAl, HL1.out]; omega)]; exact HL1.out
            refine ⟨f + 1, putAt cs1 q AL, by simp, by omega, hpl, ?_, ?_⟩
            · have hI := HI1.out
              have ng := fun {b t cs} (h : Blk wr b t cs) (ht : t ≠ 47) => Blk.ne_ h hI.bg ht
              have hch := hI.bch
              refine ⟨hI.b24.kp hk3 (ng hI.b24 (by decide)), hI.b28.kp hk3 (ng hI.b28 (by decide)), hI.bres.kp hk3 (ng hI.bres (by decide)), ?_, hcp, hI.bel.trans (hk3.to_below' hI.bel.size (fun i hi e => by omega))⟩
              rw [hpl, ← HL1.out]
              exact hch.kp hk3 (ng hch (by decide))
            · have hp := HP1.out.put HB.out (f := f) (t := f + k) (by omega) (by show f + k < S; omega) hAc (fun f' t' hd hc => by omega)
              rw [← HL1.out] at hpl
              have e : qN ((S : Int)).toNat f (f + k) * ((N : Int)).toNat = q := hqo.symm
              simp only at hp
              rw [e] at hp
              exact hp.mono (fun f' t' h1 h2 h3 => by omega)
          case measure => simp [intOf]; omega
        · have HI1 := hide hI1
          have HP1 := hide hP1
          clear hI1 hP1
          go_wp2_with fail
          go_roundw
          case rel => exact ⟨k + 1, cs1, by simp, by omega, hlen1, HI1.out, HP1.out.mono fun f' t h1 h2 h3 => by simp only at h2; omega⟩
          case measure => simp [intOf]; omega
    · obtain rfl : k = S := by omega
      have hch := hI.bch
      have hres := hI.bres
      rw [hlen] at hch
      have x0 := hch.cell 0
      have x1 := hch.cell 1
      have x2 := hch.cell 2
      have y0 := hres.cell 0
      have y1 := hres.cell 1
      have y2 := hres.cell 2
      have f0 := hres.frozen 0
      have f1 := hres.frozen 1
      have f2 := hres.frozen 2
      simp at x0 x1 x2 y0 y1 y2
      have HLEN := hide hlen
      clear hI hP hch hres hlen c0
      go_wp2
      refine bodyPost_ret (v := ChartA (N : Int) (k : Int) (some ⟨w.heap.size + 1 + 1 + 1 + 1, 0, none⟩) n n) (by simp [results, Tryd.results14, go_sem, y0, y1, y2, f0, f1, f2]) rfl ?_
      have hbel := ((((HI.out.bel).setCell (p := ⟨w.heap.size + 1 + 1, 0, none⟩) (by show w.heap.size ≤ w.heap.size + 1 + 1; omega) (Value.int IntKind.i64 (N : Int))).setCell (p := ⟨w.heap.size + 1 + 1, 1, none⟩) (by show w.heap.size ≤ w.heap.size + 1 + 1; omega) (Value.int IntKind.i64 (k : Int))).setCell (p := ⟨w.heap.size + 1 + 1, 2, none⟩) (by show w.heap.size ≤ w.heap.size + 1 + 1; omega) (.slice (some ⟨w.heap.size + 1 + 1 + 1 + 1, 0, none⟩) n n))
      have hg := (((HI.out.bg.far (p := ⟨w.heap.size + 1 + 1, 0, none⟩) (by show ¬ w.heap.size + 1 + 1 + 1 + 1 = w.heap.size + 1 + 1; omega) (Value.int IntKind.i64 (N : Int))).far (p := ⟨w.heap.size + 1 + 1, 1, none⟩) (by show ¬ w.heap.size + 1 + 1 + 1 + 1 = w.heap.size + 1 + 1; omega) (Value.int IntKind.i64 (k : Int))).far (p := ⟨w.heap.size + 1 + 1, 2, none⟩) (by show ¬ w.heap.size + 1 + 1 + 1 + 1 = w.heap.size + 1 + 1; omega) (.slice (some ⟨w.heap.size + 1 + 1 + 1 + 1, 0, none⟩) n n))
      refine ⟨some ⟨w.heap.size + 1 + 1 + 1 + 1, 0, none⟩, n, cs, by rw [HLEN.out], HP.out.mono (fun f t h1 h2 h3 => by simp only at h2; omega), Rd.of_blk (c := 0) hg (ccells_length _), hbel, fun b o he => ?_, Nat.le_of_eq HLEN.out⟩
      injection he with he
      injection he with he
      omega
end Go.Proofs.YtnifpeamgoapmaaDoor
