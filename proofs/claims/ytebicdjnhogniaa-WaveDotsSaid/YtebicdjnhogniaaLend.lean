/- What is lent: a copy with three marked places behind it; whether it was kept. -/
import Derived.Test.YtebicdjnhogniaaRbk
namespace Go.Proofs.Ytebicdjnhogniaa.T
open Go.RowKit Go.Proofs.Ytebicdjnhogniaa.PWavePolys Go.Proofs.YtebicdjnhogniaaW.PrintWords Go.Proofs.YtebicdjnhogniaaW.PrintLast
set_option linter.unusedVariables false
set_option linter.unusedSimpArgs false
abbrev RK (k : IntKind) (e : TypeId) (W : World) (base g n : Nat) (xs : List Int) : Prop := Kd.R (Kd.int k) e W base (fun _ => True) (.slice (some ⟨g, 0, none⟩) n n) xs
section
variable {P : Program} {ops : Array Oper} {rest : List Oper} {o : Oper} {a : Act} {Q : Exit → Act → World → Prop} {W : World}
theorem lend_make (k : IntKind) (e t : TypeId) (hgd : o.guard = none) (x y : Operand) (ho : o.op = .makeSlice t x y) (n : Nat) (hx : a.eval x = .int .i64 0) (hy : a.eval y = .int .i64 ((n : Int) + 3))
    (ht : P.underlying t = some (.slice e)) (bytes : Nat) (hinfo : (P.info? e).map (fun i => (i.zero, i.size, i.bytes)) = some (some (.int k 0), 1, bytes)) (hb : bytes ≤ 8) (hn : n ≤ 1000000)
    (h : ∀ g w1, RK k e w1 W.heap.size g (n + 3) (List.replicate (n + 3) 0) → Below W.heap.size W w1 → W.heap.size ≤ g → wpList P ops Q rest (a.put o.dst (.slice (some ⟨g, 0, none⟩) 0 (n + 3))) w1) : wpList P ops Q (o :: rest) a W := by
  obtain ⟨i0, hi, hzz⟩ := Option.map_eq_some_iff.1 hinfo
  simp only [Prod.mk.injEq] at hzz
  obtain ⟨hz0, hz1, hz2⟩ := hzz
  have hbn : bytes * (n + 3) ≤ 8 * 1000003 := Nat.mul_le_mul hb (by omega)
  have hr := run_make (P := P) W t e i0 (.int k 0) ht hi hz0 .i64 .i64 0 ((n : Int) + 3) (by omega) (by omega)
    (by
      rw [hz2]
      have : ((bytes * (n + 3) : Nat) : Int) ≤ 281474976710656 := by omega
      rw [Int.natCast_mul] at this
      simpa using this) (by omega)
  have e1 : (Int.toNat ((n : Int) + 3)) = n + 3 := by omega
  rw [e1, hz1, Nat.mul_one] at hr
  refine Kd.event_run (w1 := W.alloc (.cells (madeCells (Value.int k 0).cells (n + 3)) e)) (v := .slice (some ⟨W.heap.size, 0, none⟩) 0 (n + 3)) hgd (by simp [execOp, ho, hx, hy, hr]) (h W.heap.size _ ⟨fun _ _ => trivial, (madeCells (Value.int k 0).cells (n + 3)).toList, ?_, ?_⟩ ((Below.refl _ _).alloc (Nat.le_refl _) _) (Nat.le_refl _))
  · have h2 := World.ownsRow_lit (base := W.heap.size) (e := e) (size := (Kd.int k).sz) W (madeCells (Value.int k 0).cells (n + 3)) (n + 3) (Nat.le_refl _) (by simp [maxLen]; omega) (by rw [size_madeCells]; exact (Nat.mul_one _).symm)
    simpa using h2
  · have h3 := Kd.reps_made (R := fun (x : Int) cs => cs = [Value.int k x]) (z := Value.int k 0) (size := 1) (z0 := 0) rfl (by omega) rfl (n + 3)
    rw [Nat.mul_one] at h3
    exact h3
/-- written one behind the other. -/
def wr (xs : List Int) : Nat → List Int → List Int
  | _, [] => xs
  | o, y :: ys => wr (xs.set o y) (o + 1) ys
theorem wr_over : ∀ (ys bs : List Int), ys.length ≤ bs.length → ∀ pre : List Int, wr (pre ++ bs) pre.length ys = pre ++ ys ++ bs.drop ys.length := by
  intro ys
  induction ys with
  | nil => intro bs _ pre; simp [wr]
  | cons y ys ih =>
    intro bs hb pre
    cases bs with
    | nil => simp at hb
    | cons b bs =>
      have e1 : (pre ++ b :: bs).set pre.length y = (pre ++ [y]) ++ bs := by
        rw [List.set_append_right _ _ (Nat.le_refl _)]
        simp
      show wr ((pre ++ b :: bs).set pre.length y) (pre.length + 1) ys = _
      rw [e1]
      have h := ih bs (by simpa using hb) (pre ++ [y])
      rw [List.length_append, List.length_singleton] at h
      rw [h]
      simp
theorem wr_zero (xs : List Int) : wr (List.replicate (xs.length + 3) 0) 0 xs = xs ++ List.replicate 3 0 := by
  have h := wr_over xs (List.replicate (xs.length + 3) 0) (by simp) []
  simpa using h
theorem setCells_row (k : IntKind) (e base g n : Nat) : ∀ (ys : List Int) (W : World) (xs : List Int) (o : Nat), RK k e W base g n xs → RK k e (W.setCells g o (ys.map (Value.int k))) base g n (wr xs o ys) ∧ W.grownBy (W.setCells g o (ys.map (Value.int k))) (some g)
  | [], W, xs, o, h => ⟨h, World.grownBy.refl W _⟩
  | y :: ys, W, xs, o, h => by
    have h1 := Kd.R_putg h (o : Int) y
    rw [Int.toNat_natCast] at h1
    have h2 := setCells_row k e base g n ys _ _ (o + 1) h1.1
    exact ⟨h2.1, World.grownBy.trans h1.2 h2.2⟩
theorem lend_append (k : IntKind) (e t : TypeId) (hgd : o.guard = none) (s x : Operand) (ho : o.op = .call { callee := .builtin .append, args := #[s, x], argTypes := #[t, t] })
    (ht : P.underlying t = some (.slice e)) (bytes : Nat) (hinfo : (P.info? e).map (fun i => (i.zero, i.size, i.bytes)) = some (some (.int k 0), 1, bytes))
    (A : Option Addr) (n c g base : Nat) (xs : List Int) (hs : a.eval s = .slice (some ⟨g, 0, none⟩) 0 (n + 3)) (hx : a.eval x = .slice A n c) (hn : n = xs.length)
    (hR : RK k e W base g (n + 3) (List.replicate (n + 3) 0)) (hC : Kd.C (Kd.int k) W A xs.length xs)
    (h : ∀ w1, RK k e w1 base g (n + 3) (xs ++ List.replicate 3 0) → W.grownBy w1 (some g) → wpList P ops Q rest (a.put o.dst (.slice (some ⟨g, 0, none⟩) n (n + 3))) w1) : wpList P ops Q (o :: rest) a W := by
  obtain ⟨i0, hi, hzz⟩ := Option.map_eq_some_iff.1 hinfo
  simp only [Prod.mk.injEq] at hzz
  obtain ⟨hz0, hz1, hz2⟩ := hzz
  subst hn
  cases A with
  | none =>
    have hx0 : xs = [] := by
      rcases Nat.eq_zero_or_pos xs.length with h0 | h0
      · exact List.eq_nil_of_length_eq_zero h0
      · obtain ⟨ad, hA, _⟩ := Kd.at_int hC 0 (by omega) (by omega)
        cases hA
    subst hx0
    have hr : (Builtin.append_ #[t, t] o.type #[.slice (some ⟨g, 0, none⟩) 0 3, .slice none 0 c]).run P W = .ok (.slice (some ⟨g, 0, none⟩) 0 3) W := by
      simp [Builtin.append_, run_underlying ht, sizeOf, typeInfo, hi, Builtin.lenOf, Builtin.firstCells, storeCells]
    refine Kd.event_run (w1 := W) (v := .slice (some ⟨g, 0, none⟩) 0 3) hgd ?_ (h W (by simpa using hR) (World.grownBy.refl W _))
    simp only [execOp, ho, resolve, invoke, builtin, Sem.run_bind, Sem.run_pure, Result.andThen_ok, List.map_toArray, List.map_cons, List.map_nil, hs, hx, List.length_nil, Nat.zero_add, hr]
  | some ad =>
    have hcell : ∀ j u, (xs.map (Value.int k))[j]? = some u → W.cell? (ad.add j) = some u := by
      intro j u hj
      obtain ⟨hjl, hju⟩ := List.getElem?_eq_some_iff.1 hj
      rw [List.length_map] at hjl
      obtain ⟨ad', hA', hc'⟩ := Kd.at_int hC (j : Int) (by omega) (by omega)
      injection hA' with hA'
      subst hA'
      rw [Int.toNat_natCast] at hc'
      rw [hc', ← hju]
      simp [rd, List.getD_eq_getElem?_getD, hjl]
    have hown : ∀ j, j < xs.length + 3 → W.cell? ⟨g, j, none⟩ = some (.int k (rdOf 0 (List.replicate (xs.length + 3) 0) (j : Int))) ∧ W.frozen? ⟨g, j, none⟩ = false := fun j hj => by
      have := Kd.R_celln (0 : Int) hR (j : Int) (by omega) (by omega)
      rwa [Int.toNat_natCast] at this
    have hr := run_append_room_cells (P := P) W t o.type e i0 ht hi g 0 0 (xs.length + 3) ad xs.length c (xs.map (Value.int k)) (by rw [List.length_map, hz1, Nat.mul_one]) hcell (by intro u hu; obtain ⟨_, _, rfl⟩ := List.mem_map.1 hu; rfl) (by omega)
      (fun j hj => by rw [List.length_map] at hj; simp [(hown j (by omega)).1]) (fun j hj => by rw [List.length_map] at hj; simpa using (hown j (by omega)).2)
    simp only [Nat.zero_mul, Nat.zero_add] at hr
    obtain ⟨h1, h2⟩ := setCells_row k e base g (xs.length + 3) xs W _ 0 hR
    rw [wr_zero] at h1
    refine Kd.event_run (w1 := W.setCells g 0 (xs.map (Value.int k))) (v := .slice (some ⟨g, 0, none⟩) xs.length (xs.length + 3)) hgd ?_ (h _ h1 h2)
    simp only [execOp, ho, resolve, invoke, builtin, Sem.run_bind, Sem.run_pure, Result.andThen_ok, List.map_toArray, List.map_cons, List.map_nil, hs, hx, hr]
end
end Go.Proofs.Ytebicdjnhogniaa.T
