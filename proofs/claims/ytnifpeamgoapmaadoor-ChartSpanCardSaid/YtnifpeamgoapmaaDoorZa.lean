/- Equality of cells of a chart, as the walk meets it. -/
import Derived.Test.YtnifpeamgoapmaaDoorRd
set_option linter.unusedVariables false
namespace Go.Proofs.YtnifpeamgoapmaaDoor
open Go Go.RowKit
theorem fields45 : (Tryd.prog.fieldsOf 45).toList.map (fun f => (f.name, f.type, f.offset)) = [("Cost", 3, 0), ("Size", 3, 1)] := by kernel_rfl
theorem fields47 : (Tryd.prog.fieldsOf 47).toList.map (fun f => (f.name, f.type, f.offset)) = [("Value", 45, 0), ("Rule", 3, 2), ("Arg", 3, 3)] := by kernel_rfl
theorem map2 {l : List Field} {a b : String × TypeId × Nat} (h : l.map (fun f => (f.name, f.type, f.offset)) = [a, b]) : ∃ f g, l = [f, g] ∧ f.name = a.1 ∧ f.type = a.2.1 ∧ f.offset = a.2.2 ∧ g.name = b.1 ∧ g.type = b.2.1 ∧ g.offset = b.2.2 := by
  match l, h with
  | [f, g], h =>
    simp only [List.map_cons, List.map_nil, List.cons.injEq, and_true] at h
    obtain ⟨rfl, rfl⟩ := h
    exact ⟨f, g, rfl, rfl, rfl, rfl, rfl, rfl, rfl⟩
theorem map3 {l : List Field} {a b c : String × TypeId × Nat} (h : l.map (fun f => (f.name, f.type, f.offset)) = [a, b, c]) : ∃ f g k, l = [f, g, k] ∧ (f.name = a.1 ∧ f.type = a.2.1 ∧ f.offset = a.2.2) ∧ (g.name = b.1 ∧ g.type = b.2.1 ∧ g.offset = b.2.2) ∧ (k.name = c.1 ∧ k.type = c.2.1 ∧ k.offset = c.2.2) := by
  match l, h with
  | [f, g, k], h =>
    simp only [List.map_cons, List.map_nil, List.cons.injEq, and_true] at h
    obtain ⟨rfl, rfl, rfl⟩ := h
    exact ⟨f, g, k, rfl, ⟨rfl, rfl, rfl⟩, ⟨rfl, rfl, rfl⟩, rfl, rfl, rfl⟩
theorem run_eqlI (d : Nat) (a b : Int) (w : World) : (Op.equalIn (d + 1) 3 (I a) (I b)).run Tryd.prog w = .ok (a == b) w := run_equalIn_int w d 3 .i64 .i64 a b Tryd.underlying3
theorem run_eql45 (d : Nat) (a b : Vl) (w : World) : (Op.equalIn (d + 1 + 1) 45 (VA a) (VA b)).run Tryd.prog w = .ok (decide (a = b)) w := by
  obtain ⟨a1, a2⟩ := a
  obtain ⟨b1, b2⟩ := b
  rw [show VA ⟨a1, a2⟩ = .agg #[I a1, I a2] from rfl, show VA ⟨b1, b2⟩ = .agg #[I b1, I b2] from rfl]
  rw [run_equalIn_struct w (d + 1) 45 _ _ (by kernel_rfl) (by kernel_rfl)]
  obtain ⟨f, g, hl, n1, t1, o1, n2, t2, o2⟩ := map2 fields45
  have p0 : ∀ x y w, (part 3 #[I x, I y] 0).run Tryd.prog w = .ok (I x) w := fun _ _ _ => by kernel_rfl
  have p1 : ∀ x y w, (part 3 #[I x, I y] 1).run Tryd.prog w = .ok (I y) w := fun _ _ _ => by kernel_rfl
  rw [hl]
  by_cases h1 : a1 = b1 <;> by_cases h2 : a2 = b2 <;> simp [Op.eqFields, n1, t1, o1, n2, t2, o2, p0, p1, run_eqlI, h1, h2, Result.andThen]
theorem run_eql47 (a b : Cel) (w : World) : (Op.equal 47 (CelA a) (CelA b)).run Tryd.prog w = .ok (decide (a = b)) w := by
  obtain ⟨⟨a1, a2⟩, a3, a4⟩ := a
  obtain ⟨⟨b1, b2⟩, b3, b4⟩ := b
  unfold Op.equal
  rw [show Op.maxDepth = 9997 + 1 + 1 + 1 from rfl]
  rw [show CelA ⟨⟨a1, a2⟩, a3, a4⟩ = .agg #[I a1, I a2, I a3, I a4] from rfl, show CelA ⟨⟨b1, b2⟩, b3, b4⟩ = .agg #[I b1, I b2, I b3, I b4] from rfl]
  rw [run_equalIn_struct w (9997 + 1 + 1) 47 _ _ (by kernel_rfl) (by kernel_rfl)]
  obtain ⟨f, g, k, hl, ⟨n1, t1, o1⟩, ⟨n2, t2, o2⟩, n3, t3, o3⟩ := map3 fields47
  have p0 : ∀ x y z u w, (part 45 #[I x, I y, I z, I u] 0).run Tryd.prog w = .ok (VA ⟨x, y⟩) w := fun _ _ _ _ _ => by kernel_rfl
  have p2 : ∀ x y z u w, (part 3 #[I x, I y, I z, I u] 2).run Tryd.prog w = .ok (I z) w := fun _ _ _ _ _ => by kernel_rfl
  have p3 : ∀ x y z u w, (part 3 #[I x, I y, I z, I u] 3).run Tryd.prog w = .ok (I u) w := fun _ _ _ _ _ => by kernel_rfl
  have hv := run_eql45 9997 ⟨a1, a2⟩ ⟨b1, b2⟩
  have h3' := run_eqlI (9997 + 1) a3 b3
  have h4' := run_eqlI (9997 + 1) a4 b4
  rw [hl]
  generalize 9997 + 1 = e at *
  by_cases h1 : (⟨a1, a2⟩ : Vl) = ⟨b1, b2⟩ <;> by_cases h3 : a3 = b3 <;> by_cases h4 : a4 = b4 <;> simp [Op.eqFields, n1, t1, o1, n2, t2, o2, n3, t3, o3, p0, p2, p3, hv, h3', h4', h3, h4, Result.andThen] <;> simp_all
theorem run_neq47 (a b : Cel) (w : World) : (binOp .neq 47 (CelA a) (CelA b)).run Tryd.prog w = .ok (.bool (!decide (a = b))) w := by
  simp only [binOp]
  simp [run_eql47]
end Go.Proofs.YtnifpeamgoapmaaDoor
