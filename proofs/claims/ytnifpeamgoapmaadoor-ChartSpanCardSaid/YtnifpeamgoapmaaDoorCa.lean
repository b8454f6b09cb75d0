/- What is read: rows of the arguments' memory. chart.At. -/
import Derived.Test.YtnifpeamgoapmaaDoorM4
import Derived.Test.YtnifpeamgoapmaaDoorM1
set_option linter.unusedVariables false
set_option linter.unusedSimpArgs false
namespace Go.Proofs.YtnifpeamgoapmaaDoor
open Go Go.RowKit

/-- n elements of sz cells each, read at A. -/
def Rd (w : World) (A : Option Addr) (n sz : Nat) (xs : List Value) : Prop :=
  xs.length = n * sz ∧ (0 < n → ∃ b off, A = some ⟨b, off, none⟩ ∧ ∀ (j : Nat) u, xs[j]? = some u → w.cell? ⟨b, off + j, none⟩ = some u)
section
variable {w w' : World} {A : Option Addr} {n sz : Nat} {xs : List Value}
theorem Rd.keep (h : Rd w A n sz xs) (hc : ∀ (b o : Nat) u, w.cell? ⟨b, o, none⟩ = some u → w'.cell? ⟨b, o, none⟩ = some u) : Rd w' A n sz xs :=
  ⟨h.1, fun hn => by obtain ⟨b, off, e, h2⟩ := h.2 hn; exact ⟨b, off, e, fun j u hj => hc _ _ _ (h2 j u hj)⟩⟩
theorem Rd.below (h : Rd w A n sz xs) (hb : Below w.heap.size w w') : Rd w' A n sz xs := h.keep fun _ _ _ hu => cell_below hb hu
end

def ccells (cs : List Cel) : List Value := cs.flatMap fun c => [I c.v.c, I c.v.s, I c.r, I c.a]
theorem ccells_length (vs : List Cel) : (ccells vs).length = vs.length * 4 := by
  induction vs with
  | nil => rfl
  | cons e es ih => simp [ccells] at ih ⊢; omega
theorem ccells_get (vs : List Cel) (i : Nat) {c : Cel} (h : vs[i]? = some c) : (ccells vs)[i * 4]? = some (I c.v.c) ∧ (ccells vs)[i * 4 + 1]? = some (I c.v.s) ∧ (ccells vs)[i * 4 + 2]? = some (I c.r) ∧ (ccells vs)[i * 4 + 3]? = some (I c.a) := by
  induction vs generalizing i with
  | nil => simp at h
  | cons a es ih =>
    cases i with
    | zero => simp at h; subst h; simp [ccells]
    | succ i =>
      have := ih i (by simpa using h)
      simp only [ccells, List.flatMap_cons] at this ⊢
      have e0 : (i + 1) * 4 = i * 4 + 4 := by omega
      rw [e0]
      simpa using this
theorem Rd.cel {w : World} {A : Option Addr} {cs : List Cel} (h : Rd w A cs.length 4 (ccells cs)) (i : Nat) {c : Cel} (hi : cs[i]? = some c) :
    ∃ b off, A = some ⟨b, off, none⟩ ∧ w.cell? ⟨b, off + i * 4, none⟩ = some (I c.v.c) ∧ w.cell? ⟨b, off + i * 4 + 1, none⟩ = some (I c.v.s) ∧ w.cell? ⟨b, off + i * 4 + 2, none⟩ = some (I c.r) ∧ w.cell? ⟨b, off + i * 4 + 3, none⟩ = some (I c.a) := by
  have hl := (List.getElem?_eq_some_iff.1 hi).1
  obtain ⟨b, off, e, h2⟩ := h.2 (by omega)
  obtain ⟨g0, g1, g2, g3⟩ := ccells_get cs i hi
  exact ⟨b, off, e, h2 _ _ g0, h2 _ _ g1, h2 _ _ g2, h2 _ _ g3⟩

/-- the package's variable none, as the program's text lays it -/
def NoneAt (w : World) : Prop := w.cell? ⟨0, 0, none⟩ = some (I Inf) ∧ w.cell? ⟨0, 1, none⟩ = some (I 0) ∧ w.cell? ⟨0, 2, none⟩ = some (I (-1)) ∧ w.cell? ⟨0, 3, none⟩ = some (I 0)
theorem NoneAt.below {w w' : World} (h : NoneAt w) (hb : Below w.heap.size w w') : NoneAt w' := ⟨cell_below hb h.1, cell_below hb h.2.1, cell_below hb h.2.2.1, cell_below hb h.2.2.2⟩

abbrev ChartA (cN cS : Int) (A : Option Addr) (n c : Nat) : Value := .agg #[I cN, I cS, .slice A n c]
abbrev ItemA (h f t : Int) : Value := .agg #[I h, I f, I t]
abbrev CelA (c : Cel) : Value := .agg #[I c.v.c, I c.v.s, I c.r, I c.a]

set_option maxHeartbeats 2000000 in
theorem At_out (cN cS h f t : Int) (A : Option Addr) (n c : Nat) (w : World) (hG : NoneAt w)
    (hc : h < 0 ∨ (0 ≤ h ∧ cN ≤ h) ∨ (0 ≤ h ∧ h < cN ∧ f < 0) ∨ (0 ≤ h ∧ h < cN ∧ 0 ≤ f ∧ t < f) ∨ (0 ≤ h ∧ h < cN ∧ 0 ≤ f ∧ f ≤ t ∧ cS ≤ t)) :
    Calls Tryd.prog 28 #[ChartA cN cS A n c, ItemA h f t] w fun e w' => e = .returned (CelA noneC) ∧ Below w.heap.size w w' := by
  obtain ⟨g0, g1, g2, g3⟩ := hG
  have n0 := World.new_ne w _ g0
  simp only at n0
  have hsz : 0 < w.heap.size := by omega
  have HB := hide (show Below w.heap.size w (((w.alloc (Obj.cells #[I cN, I cS, .slice A n c] 34)).alloc (Obj.cells #[I h, I f, I t] 61)).alloc (Obj.cells #[I Inf, I 0, I (-1), I 0] 47)) from
    ((((Below.refl _ _).alloc (Nat.le_refl _) _).alloc (by simp) _).alloc (by simp; omega) _))
  rcases hc with h1 | ⟨h1, h2⟩ | ⟨h1, h2, h3⟩ | ⟨h1, h2, h3, h4⟩ | ⟨h1, h2, h3, h4, h5⟩
  all_goals
    go_enter Tryd.func28, Tryd.ntmps28
    go_wp2
    exact bodyPost_ret (v := CelA noneC) (by simp [results, Tryd.results28, go_sem, noneC]) rfl ⟨rfl, HB.out⟩

theorem mul_bd {a b A B : Int} (ha : 0 ≤ a) (hA : a ≤ A) (hb : 0 ≤ b) (hB : b ≤ B) : 0 ≤ a * b ∧ a * b ≤ A * B :=
  ⟨Int.mul_nonneg ha hb, Int.mul_le_mul hA hB hb (Int.le_trans ha hA)⟩

theorem w64 {n : Int} (h : -4000000000000000000 ≤ n ∧ n ≤ 4000000000000000000) : wrap64 n = n := by
  unfold wrap64
  omega
theorem sq_bd {f : Int} (h1 : 0 ≤ f) (h2 : f ≤ 1000) : 0 ≤ f * (f - 1) ∧ f * (f - 1) ≤ 1000000 := by
  by_cases h0 : f = 0
  · subst h0; omega
  · have := mul_bd (A := 1000) (B := 1000) h1 h2 (show 0 ≤ f - 1 by omega) (by omega)
    omega
theorem offP_wrap {cN cS f t : Int} (h1 : 0 ≤ f) (h2 : f ≤ t) (h3 : t ≤ 1000) (h4 : 0 ≤ cN) (h5 : cN ≤ 1000) (h6 : 0 ≤ cS) (h7 : cS ≤ 1000) :
    wrap64 (wrap64 (wrap64 (wrap64 (wrap64 (f * cS) - wrap64 ((wrap64 (f * (f - 1))).tdiv 2)) + t) - f) * cN) = offP cN cS f t := by
  have b1 := mul_bd (A := 1000) (B := 1000) h1 (by omega) h6 h7
  have b2 := sq_bd h1 (show f ≤ 1000 by omega)
  unfold offP
  generalize hP1 : f * cS = P1 at *
  generalize hP2 : f * (f - 1) = P2 at *
  rw [w64 (n := P1) (by omega), w64 (n := P2) (by omega), Int.tdiv_eq_ediv_of_nonneg b2.1, w64 (n := P2 / 2) (by omega), w64 (n := P1 - P2 / 2) (by omega), w64 (n := P1 - P2 / 2 + t) (by omega), w64 (n := P1 - P2 / 2 + t - f) (by omega)]
  apply w64
  have b3 : -1000000 ≤ P1 - P2 / 2 + t - f ∧ P1 - P2 / 2 + t - f ≤ 2000000 := by omega
  generalize P1 - P2 / 2 + t - f = z at b3
  have l1 : -1000000 * 1000 ≤ z * cN := by
    by_cases hz : 0 ≤ z
    · have := Int.mul_nonneg hz h4; omega
    · have := mul_bd (a := -z) (A := 1000000) (B := 1000) (by omega) (by omega) h4 h5
      rw [Int.neg_mul] at this
      omega
  have l2 : z * cN ≤ 2000000 * 1000 := by
    by_cases hz : 0 ≤ z
    · have := mul_bd (a := z) (A := 2000000) (B := 1000) hz (by omega) h4 h5; omega
    · have := mul_bd (a := -z) (A := 1000000) (B := 1000) (by omega) (by omega) h4 h5
      rw [Int.neg_mul] at this
      omega
  omega

/-- offset -/
theorem offset_any (cN cS f t : Int) (A : Option Addr) (n c : Nat) (w : World) (h1 : 0 ≤ f) (h2 : f ≤ t) (h3 : t ≤ 1000) (h4 : 0 ≤ cN) (h5 : cN ≤ 1000) (h6 : 0 ≤ cS) (h7 : cS ≤ 1000) :
    Calls Tryd.prog 33 #[ChartA cN cS A n c, I f, I t] w fun e w' => e = .returned (.int .i64 (offP cN cS f t)) ∧ Below w.heap.size w w' := by
  have HO := hide (offP_wrap h1 h2 h3 h4 h5 h6 h7)
  have HB := hide (show Below w.heap.size w (w.alloc (Obj.cells #[I cN, I cS, .slice A n c] 34)) from ((Below.refl _ _).alloc (Nat.le_refl _) _))
  have hf : f ≤ 1000 := by omega
  clear h2 h3 h4 h5 h6 h7
  go_enter Tryd.func33, Tryd.ntmps33
  go_wp2
  go_ret
  exact ⟨by rw [← HO.out]; rfl, HB.out⟩

theorem offP_base {cS f t : Int} (h1 : 0 ≤ f) (h2 : f ≤ t) (h3 : t < cS) : 0 ≤ f * cS - f * (f - 1) / 2 + t - f := by
  have e1 : f * (f - 1) = f * f - f := by rw [Int.mul_sub, Int.mul_one]
  have e2 : f * (f + 1) ≤ f * cS := Int.mul_le_mul_of_nonneg_left (by omega) h1
  rw [Int.mul_add, Int.mul_one] at e2
  have e3 : 0 ≤ f * f := Int.mul_nonneg h1 h1
  rw [e1]
  generalize f * f = Q at *
  generalize f * cS = R at *
  omega
theorem offP_nonneg {cN cS f t : Int} (h1 : 0 ≤ f) (h2 : f ≤ t) (h3 : t < cS) (h4 : 0 ≤ cN) : 0 ≤ offP cN cS f t := Int.mul_nonneg (offP_base h1 h2 h3) h4
theorem offP_le {cN cS f t : Int} (h1 : 0 ≤ f) (h2 : f ≤ t) (h3 : t < cS) (h4 : 0 ≤ cN) (h5 : cN ≤ 1000) (h7 : cS ≤ 1000) : offP cN cS f t ≤ 2000000000 := by
  have b0 := offP_base h1 h2 h3
  have b1 := mul_bd (A := 1000) (B := 1000) h1 (by omega) (show 0 ≤ cS by omega) h7
  have b2 := sq_bd h1 (show f ≤ 1000 by omega)
  unfold offP
  generalize f * cS = P1 at *
  generalize f * (f - 1) = P2 at *
  have := mul_bd (a := P1 - P2 / 2 + t - f) (A := 2000000) (B := 1000) b0 (by omega) h4 h5
  omega

set_option maxHeartbeats 2000000 in
theorem At_in_none (cN cS h f t : Int) (A : Option Addr) (cp : Nat) (cs : List Cel) (w : World) (hG : NoneAt w) (hR : Rd w A cs.length 4 (ccells cs)) (hN : cN ≤ 1000) (hS : cS ≤ 1000) (hL : cs.length ≤ 1000000)
    (h1 : 0 ≤ h) (h2 : h < cN) (h3 : 0 ≤ f) (h4 : f ≤ t) (h5 : t < cS)
    (hc : (cs.length : Int) < t ∨ (0 < f ∧ (cs.length : Int) < cS) ∨ (0 < t ∧ (cs.length : Int) < cN) ∨ (cs.length : Int) ≤ h) :
    Calls Tryd.prog 28 #[ChartA cN cS A cs.length cp, ItemA h f t] w fun e w' => e = .returned (CelA (atP cN cS cs h f t)) ∧ Below w.heap.size w w' := by
  have hG' := hG
  obtain ⟨g0, g1, g2, g3⟩ := hG
  have n0 := World.new_ne w _ g0
  simp only at n0
  have hsz : 0 < w.heap.size := by omega
  have HB := hide (show ∀ c : Cel, Below w.heap.size w (((w.alloc (Obj.cells #[I cN, I cS, .slice A cs.length cp] 34)).alloc (Obj.cells #[I h, I f, I t] 61)).alloc (Obj.cells #[I c.v.c, I c.v.s, I c.r, I c.a] 47)) from
    fun _ => ((((Below.refl _ _).alloc (Nat.le_refl _) _).alloc (by simp) _).alloc (by simp; omega) _))
  have HA := hide (show atP cN cS cs h f t = noneC by rw [atP, if_neg (by omega), if_pos hc])
  have hcc : (cs.length : Int) < t ∨ (t ≤ (cs.length : Int) ∧ 0 < f ∧ (cs.length : Int) < cS) ∨ (t ≤ (cs.length : Int) ∧ ¬ (0 < f) ∧ 0 < t ∧ (cs.length : Int) < cN) ∨ (t ≤ (cs.length : Int) ∧ 0 < f ∧ cS ≤ (cs.length : Int) ∧ 0 < t ∧ (cs.length : Int) < cN) ∨
      (t ≤ (cs.length : Int) ∧ ¬ (0 < f) ∧ ¬ (0 < t) ∧ (cs.length : Int) ≤ h) := by omega
  clear hc hR
  rcases hcc with k1 | ⟨k1, k2, k3⟩ | ⟨k1, k2, k3, k4⟩ | ⟨k1, k2, k3, k4, k5⟩ | ⟨k1, k2, k3, k4⟩
  all_goals
    go_enter Tryd.func28, Tryd.ntmps28
    go_wp2
    exact bodyPost_ret (v := CelA noneC) (by simp [results, Tryd.results28, go_sem, noneC]) rfl ⟨by rw [HA.out], HB.out noneC⟩
end Go.Proofs.YtnifpeamgoapmaaDoor
