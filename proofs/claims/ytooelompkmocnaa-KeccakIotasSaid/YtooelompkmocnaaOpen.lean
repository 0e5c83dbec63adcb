/- A parameter that is an array of 25 words. -/
import Derived.Test.YtooelompkmocnaaAw
import Derived.WideKeyArr2
import Derived.ChangeShapes
namespace Go.Proofs.Ytooelompkmocnaa.T
open Go.RowKit Go.WideMaps Go.ChangeShapes Go.WideShapes
set_option linter.unusedVariables false
set_option linter.unusedSimpArgs false
theorem arr23 : ArrKey Try.prog 23 22 25 := ⟨und23, by kernel_rfl, cells22, by kernel_rfl⟩
theorem mapM_each {α β : Type} {g : α → Option β} : ∀ (l : List α) (ys : List β), l.mapM g = some ys → ∀ i ∈ l, ∃ y, g i = some y
  | [], _, _, i, hi => by cases hi
  | a :: l, ys, h, i, hi => by
    rw [List.mapM_cons] at h
    simp only [bind, Option.bind_eq_some_iff, pure, Option.some.injEq] at h
    obtain ⟨y, hy, ys', hys, rfl⟩ := h
    rcases List.mem_cons.1 hi with rfl | hi
    · exact ⟨y, hy⟩
    · exact mapM_each l ys' hys i hi
section
variable {H : Type} {enc : TypeId × Value → H} {W : World} {base : Nat} {sp : Nat → Bool} {held : Bool}
theorem open_av {r : Reach} {b0 : Nat} {v : Value} {d : DataW H} {ps : List MemPlace} (hval : Value.okWide Try.prog W r b0 23 v) (hd : DataW.Trod enc Try.prog W base sp held 23 v d ps) : ∃ f : L, v = .agg (av 25 f) := by
  obtain ⟨xs, rfl, hn⟩ := okWide_arr arr23 hval
  obtain ⟨fuel, hf⟩ := hd
  cases fuel with
  | zero => simp [DataW.trod] at hf
  | succ m =>
    rw [DataW.trod_step] at hf
    unfold DataW.trodStep at hf
    simp only [und23, Value.cells] at hf
    rw [if_pos (by rw [arr23.size]; simpa using hn)] at hf
    simp only [Option.map_eq_some_iff] at hf
    obtain ⟨ys, hy, e1⟩ := hf
    have hall : ∀ i, i < 25 → ∃ x : BitVec 64, xs[i]? = some (T.enc x) := by
      intro i hi
      obtain ⟨y, hy'⟩ := mapM_each _ ys hy i (List.mem_range.2 hi)
      obtain ⟨a, ea, _, wa⟩ := DataW.trod_int und22 hy'
      rw [cells22, Nat.mul_one] at ea
      have hx : xs.toList[i]? = some (.int .u64 a) := by
        have h := congrArg (fun l => l[0]?) ea
        simp at h
        simpa using h
      have hb : 0 ≤ a ∧ a < 2 ^ 64 := by
        have h := wa
        simp [Lit.wf, IntKind.has, IntKind.min, IntKind.max, IntKind.bits, IntKind.signed] at h
        omega
      obtain ⟨n, rfl⟩ := Int.eq_ofNat_of_zero_le hb.1
      refine ⟨BitVec.ofNat 64 n, ?_⟩
      rw [← Array.getElem?_toList, hx]
      unfold T.enc
      rw [BitVec.toNat_ofNat, Nat.mod_eq_of_lt (by omega)]
    refine ⟨fun i => if h : i < 25 then (hall i h).choose else 0, ?_⟩
    congr 1
    apply Array.ext_getElem?
    intro i
    by_cases h : i < 25
    · rw [av_get 25 _ i h]
      simp only [dif_pos h]
      exact (hall i h).choose_spec
    · rw [Array.getElem?_eq_none (by omega), Array.getElem?_eq_none (by rw [av_size]; omega)]
end
end Go.Proofs.Ytooelompkmocnaa.T
