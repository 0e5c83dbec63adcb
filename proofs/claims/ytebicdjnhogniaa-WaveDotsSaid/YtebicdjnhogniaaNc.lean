/- The contracts for any lists (printed by gen_nc.py). -/
import Derived.Test.YtebicdjnhogniaaNb
namespace Go.Proofs.Ytebicdjnhogniaa.T
open Go.RowKit Go.Proofs.Ytebicdjnhogniaa.PWavePolys Go.Proofs.YtebicdjnhogniaaW.PrintWords Go.Proofs.YtebicdjnhogniaaW.PrintLast Go.Proofs.YtebicdjnhogniaaW.PrintMore
attribute [local go_sem] max2_int min2_int max_two min_two
set_option linter.unusedVariables false
set_option linter.unusedSimpArgs false
instance (xs : List Int) : Decidable (P xs) := inferInstanceAs (Decidable (_ ∧ _))
/-- a list that is read. -/
def IN (w : World) (v : Value) (xs : List Int) : Prop := ∃ A c, v = .slice A xs.length c ∧ Kd.C (Kd.int .i64) w A xs.length xs ∧ xs.length ≤ c ∧ xs.length ≤ 300
/-- a poly of one's own, or nil. -/
def OUT (b : Nat) (w : World) (v : Value) (xs : List Int) : Prop := (xs = [] ∧ v = .slice none 0 0) ∨ ∃ g c f, v = sl g c ∧ 256 ≤ c ∧ b ≤ g ∧ xs = ls f ∧ IR w g f
def OUTS (b : Nat) (w : World) (v : Value) (xs : List Int) : Prop := (xs = [] ∧ v = .slice none 0 0) ∨ ∃ g c f, v = sl g c ∧ b ≤ g ∧ xs = ls f ∧ IS c w g f
def two (op : F → F → F) (xs ys : List Int) : List Int := if P xs ∧ P ys then ls (op (rf xs) (rf ys)) else []
def one (op : F → F) (xs : List Int) : List Int := if P xs then ls (op (rf xs)) else []
section
variable {w w1 : World} {v u : Value} {xs ys zs : List Int} {b : Nat} {A : Option Addr}
theorem IN.below (h : IN w v xs) (hb : Below w.heap.size w w1) : IN w1 v xs := by
  obtain ⟨A, c, e, hC, h1, h2⟩ := h
  exact ⟨A, c, e, Kd.C_below hC hb, h1, h2⟩
theorem IN.drawn (h : IN w v xs) (d : Drawn0 w w1) : IN w1 v xs := h.below (below_of_drawn d)
theorem nil_C (w : World) : Kd.C (Kd.int .i64) w none 0 [] := Kd.C_of_reads (enc := Value.int .i64) (d := (0 : Int)) (h1 := fun _ => rfl) ⟨rfl, by decide, fun h => absurd h (by decide)⟩
theorem IN.nil (w : World) : IN w (.slice none 0 0) [] := ⟨none, 0, rfl, nil_C w, by simp, by simp⟩
theorem IN.poly {g c : Nat} {f : F} (h : IR w g f) (hc : 256 ≤ c) : IN w (sl g c) (ls f) := ⟨_, c, by rw [ls_len], h.rd.C, by rw [ls_len]; exact hc, by rw [ls_len]; omega⟩
theorem OUT.inn (h : OUT b w v xs) : IN w v xs := by
  rcases h with ⟨rfl, rfl⟩ | ⟨g, c, f, rfl, hc, _, rfl, h⟩
  · exact IN.nil w
  · exact IN.poly h hc
theorem OUTS.out (h : OUTS b w v xs) : OUT b w v xs := by
  rcases h with h | ⟨g, c, f, e, hg, e2, h⟩
  · exact .inl h
  · exact .inr ⟨g, c, f, e, h.room, hg, e2, h.ir⟩
theorem OUTS.inn (h : OUTS b w v xs) : IN w v xs := h.out.inn
theorem OUT.below (h : OUT b w v xs) (hb : Below w.heap.size w w1) : OUT b w1 v xs := by
  rcases h with h | ⟨g, c, f, e, hc, hg, e2, h⟩
  · exact .inl h
  · exact .inr ⟨g, c, f, e, hc, hg, e2, h.below hb⟩
theorem OUTS.below (h : OUTS b w v xs) (hb : Below w.heap.size w w1) : OUTS b w1 v xs := by
  rcases h with h | ⟨g, c, f, e, hg, e2, h⟩
  · exact .inl h
  · exact .inr ⟨g, c, f, e, hg, e2, h.below hb⟩
theorem OUTS.drawn (h : OUTS b w v xs) (d : Drawn0 w w1) : OUTS b w1 v xs := h.below (below_of_drawn d)
theorem OUTS.lower {b2 : Nat} (h : OUTS b w v xs) (hb : b2 ≤ b) : OUTS b2 w v xs := by
  rcases h with h | ⟨g, c, f, e, hg, e2, h⟩
  · exact .inl h
  · exact .inr ⟨g, c, f, e, by omega, e2, h⟩
theorem OUTS.lo (h : OUTS b w v xs) : ∀ j, some j = v.ownBlock → b ≤ j := by
  rcases h with ⟨_, rfl⟩ | ⟨g, c, f, rfl, hg, _, h⟩
  · intro j hj; simp [Value.ownBlock] at hj
  · intro j hj
    have e : j = g := by simpa [Value.ownBlock] using hj
    omega
theorem OUTS.hi (h : OUTS b w v xs) : ∀ j, some j = v.ownBlock → j < w.heap.size := by
  rcases h with ⟨_, rfl⟩ | ⟨g, c, f, rfl, hg, _, h⟩
  · intro j hj; simp [Value.ownBlock] at hj
  · intro j hj
    have e : j = g := by simpa [Value.ownBlock] using hj
    have := h.lt
    omega
theorem OUTS.kept (h : OUTS b w v xs) (hk : Kept w w1 (fun j => some j = u.ownBlock)) (hne : ∀ j, some j = v.ownBlock → some j ≠ u.ownBlock) : OUTS b w1 v xs := by
  rcases h with h | ⟨g, c, f, rfl, hg, e2, h⟩
  · exact .inl h
  · obtain ⟨cs, h1, h2⟩ := h
    exact .inr ⟨g, c, f, rfl, hg, e2, cs, blk_kept h1 hk (hne g (by simp [Value.ownBlock])), h2⟩
theorem IN.rd (h : Kd.C (Kd.int .i64) w A xs.length xs) (hp : P xs) : RD w A (rf xs) := rd_of_C (by rw [ls_rf hp.1]; exact h)
end
theorem not2 {p q : Prop} {b c : Bool} (h : ¬ (p ∧ q)) (hp : ¬ p → b = false) (hq : p → ¬ q → c = false) : b = false ∨ (p ∧ c = false) := by
  by_cases h1 : p
  · exact .inr ⟨h1, hq h1 fun h2 => h ⟨h1, h2⟩⟩
  · exact .inl (hp h1)
theorem each_nil (k : Nat) (A B : Option Addr) (n m c d : Nat) (xs ys : List Int) (w : World) (hA : Kd.C (Kd.int .i64) w A xs.length xs) (hB : Kd.C (Kd.int .i64) w B ys.length ys) (hn : n = xs.length) (hm : m = ys.length) (hc : n ≤ c) (hd : m ≤ d) (h : ¬ (P xs ∧ P ys)) :
    Calls Try.prog 42 #[.slice A n c, .slice B m d, fnV k] w fun e w' => e = .returned (.slice none 0 0) ∧ w' = w := by
  by_cases hx : P xs
  · have hy : ¬ P ys := fun hy => h ⟨hx, hy⟩
    have e : n = 256 := by rw [hn]; exact hx.1
    subst e
    have MA := Lib.hid (may_any A c (rf xs) w (IN.rd hA hx) hc hx.pf)
    have MB := Lib.hid (may_not B m d ys w hB hm hd hy)
    clear hA hB hx hy h hn hm
    go_enter Try.func42, Try.ntmps42
    go_wp2_with (go_at_call 36; (first | ((with_reducible refine MA.out.mono ?_); rintro e w9 ⟨rfl, hw⟩; rw [hw]; clear hw) | ((with_reducible refine MB.out.mono ?_); rintro e w9 ⟨rfl, hw⟩; rw [hw]; clear hw)))
    go_ret
    exact ⟨rfl, rfl⟩
  · have MA := Lib.hid (may_not A n c xs w hA hn hc hx)
    clear hA hB hx h hn hm
    go_enter Try.func42, Try.ntmps42
    go_wp2_with (go_at_call 36; ((with_reducible refine MA.out.mono ?_); rintro e w9 ⟨rfl, hw⟩; rw [hw]; clear hw))
    go_ret
    exact ⟨rfl, rfl⟩
theorem add_nil (A B : Option Addr) (n m c d : Nat) (xs ys : List Int) (w : World) (hA : Kd.C (Kd.int .i64) w A xs.length xs) (hB : Kd.C (Kd.int .i64) w B ys.length ys) (hn : n = xs.length) (hm : m = ys.length) (hc : n ≤ c) (hd : m ≤ d) (h : ¬ (P xs ∧ P ys)) :
    Calls Try.prog 16 #[.slice A n c, .slice B m d] w fun e w' => e = .returned (.slice none 0 0) ∧ w' = w := by
  have K := Lib.hid (each_nil 43 A B n m c d xs ys w hA hB hn hm hc hd h)
  clear hA hB hn hm h
  go_enter Try.func16, Try.ntmps16
  go_wp2_with (go_at_call 42; ((with_reducible refine K.out.mono ?_); rintro e w9 ⟨rfl, hw⟩; rw [hw]; clear hw))
  go_ret
  exact ⟨rfl, rfl⟩
theorem add_o (v u : Value) (xs ys zs : List Int) (w : World) (hv : IN w v xs) (hu : IN w u ys) (hz : two addS xs ys = zs) :
    Calls Try.prog 16 #[v, u] w fun e w' => ∃ t, e = .returned t ∧ OUTS w.heap.size w' t zs ∧ Below w.heap.size w w' := by
  obtain ⟨A, c, rfl, hA, hc, _⟩ := hv
  obtain ⟨B, d, rfl, hB, hd, _⟩ := hu
  unfold two at hz
  by_cases h : P xs ∧ P ys
  · rw [if_pos h] at hz
    have RA := IN.rd hA h.1
    have RB := IN.rd hB h.2
    rw [h.1.1] at hc ⊢
    rw [h.2.1] at hd ⊢
    refine (addS_any A B c d _ _ _ w RA RB hc hd h.1.pf h.2.pf rfl).mono ?_
    rintro e w' ⟨g, c1, rfl, hg, hI, hB⟩
    exact ⟨_, rfl, .inr ⟨g, c1, _, rfl, hg, hz.symm, hI⟩, hB⟩
  · rw [if_neg h] at hz
    refine (add_nil A B _ _ c d xs ys w hA hB rfl rfl hc hd h).mono ?_
    rintro e w' ⟨rfl, rfl⟩
    exact ⟨_, rfl, .inl ⟨hz.symm, rfl⟩, Below.refl _ _⟩
theorem sub_nil (A B : Option Addr) (n m c d : Nat) (xs ys : List Int) (w : World) (hA : Kd.C (Kd.int .i64) w A xs.length xs) (hB : Kd.C (Kd.int .i64) w B ys.length ys) (hn : n = xs.length) (hm : m = ys.length) (hc : n ≤ c) (hd : m ≤ d) (h : ¬ (P xs ∧ P ys)) :
    Calls Try.prog 25 #[.slice A n c, .slice B m d] w fun e w' => e = .returned (.slice none 0 0) ∧ w' = w := by
  have K := Lib.hid (each_nil 46 A B n m c d xs ys w hA hB hn hm hc hd h)
  clear hA hB hn hm h
  go_enter Try.func25, Try.ntmps25
  go_wp2_with (go_at_call 42; ((with_reducible refine K.out.mono ?_); rintro e w9 ⟨rfl, hw⟩; rw [hw]; clear hw))
  go_ret
  exact ⟨rfl, rfl⟩
theorem sub_o (v u : Value) (xs ys zs : List Int) (w : World) (hv : IN w v xs) (hu : IN w u ys) (hz : two subS xs ys = zs) :
    Calls Try.prog 25 #[v, u] w fun e w' => ∃ t, e = .returned t ∧ OUT w.heap.size w' t zs ∧ Below w.heap.size w w' := by
  obtain ⟨A, c, rfl, hA, hc, _⟩ := hv
  obtain ⟨B, d, rfl, hB, hd, _⟩ := hu
  unfold two at hz
  by_cases h : P xs ∧ P ys
  · rw [if_pos h] at hz
    have RA := IN.rd hA h.1
    have RB := IN.rd hB h.2
    rw [h.1.1] at hc ⊢
    rw [h.2.1] at hd ⊢
    refine (sub_any A B c d _ _ _ w RA RB hc hd h.1.pf h.2.pf rfl).mono ?_
    rintro e w' ⟨g, c1, rfl, hc1, hg, hI, hB⟩
    exact ⟨_, rfl, .inr ⟨g, c1, _, rfl, hc1, hg, hz.symm, hI⟩, hB⟩
  · rw [if_neg h] at hz
    refine (sub_nil A B _ _ c d xs ys w hA hB rfl rfl hc hd h).mono ?_
    rintro e w' ⟨rfl, rfl⟩
    exact ⟨_, rfl, .inl ⟨hz.symm, rfl⟩, Below.refl _ _⟩
theorem times_nil (A B : Option Addr) (n m c d : Nat) (xs ys : List Int) (w : World) (hA : Kd.C (Kd.int .i64) w A xs.length xs) (hB : Kd.C (Kd.int .i64) w B ys.length ys) (hn : n = xs.length) (hm : m = ys.length) (hc : n ≤ c) (hd : m ≤ d) (h : ¬ (P xs ∧ P ys)) :
    Calls Try.prog 22 #[.slice A n c, .slice B m d] w fun e w' => e = .returned (.slice none 0 0) ∧ w' = w := by
  have K := Lib.hid (each_nil 45 A B n m c d xs ys w hA hB hn hm hc hd h)
  clear hA hB hn hm h
  go_enter Try.func22, Try.ntmps22
  go_wp2_with (go_at_call 42; ((with_reducible refine K.out.mono ?_); rintro e w9 ⟨rfl, hw⟩; rw [hw]; clear hw))
  go_ret
  exact ⟨rfl, rfl⟩
theorem times_o (v u : Value) (xs ys zs : List Int) (w : World) (hv : IN w v xs) (hu : IN w u ys) (hz : two mulS xs ys = zs) :
    Calls Try.prog 22 #[v, u] w fun e w' => ∃ t, e = .returned t ∧ OUT w.heap.size w' t zs ∧ Below w.heap.size w w' := by
  obtain ⟨A, c, rfl, hA, hc, _⟩ := hv
  obtain ⟨B, d, rfl, hB, hd, _⟩ := hu
  unfold two at hz
  by_cases h : P xs ∧ P ys
  · rw [if_pos h] at hz
    have RA := IN.rd hA h.1
    have RB := IN.rd hB h.2
    rw [h.1.1] at hc ⊢
    rw [h.2.1] at hd ⊢
    refine (times_any A B c d _ _ _ w RA RB hc hd h.1.pf h.2.pf rfl).mono ?_
    rintro e w' ⟨g, c1, rfl, hc1, hg, hI, hB⟩
    exact ⟨_, rfl, .inr ⟨g, c1, _, rfl, hc1, hg, hz.symm, hI⟩, hB⟩
  · rw [if_neg h] at hz
    refine (times_nil A B _ _ c d xs ys w hA hB rfl rfl hc hd h).mono ?_
    rintro e w' ⟨rfl, rfl⟩
    exact ⟨_, rfl, .inl ⟨hz.symm, rfl⟩, Below.refl _ _⟩
theorem over_o (v : Value) (xs zs : List Int) (w : World) (hv : IN w v xs) (hz : one overS xs = zs) :
    Calls Try.prog 13 #[v] w fun e w' => ∃ t, e = .returned t ∧ OUTS w.heap.size w' t zs ∧ Below w.heap.size w w' := by
  obtain ⟨A, c, rfl, hA, hc, _⟩ := hv
  unfold one at hz
  by_cases h : P xs
  · rw [if_pos h] at hz
    have RA := IN.rd hA h
    rw [h.1] at hc ⊢
    refine (overS_any A c _ _ w RA hc h.pf rfl).mono ?_
    rintro e w' ⟨g, c1, rfl, hg, hI, hB⟩
    exact ⟨_, rfl, .inr ⟨g, c1, _, rfl, hg, hz.symm, hI⟩, hB⟩
  · rw [if_neg h] at hz
    have MA := Lib.hid (may_not A _ c xs w hA rfl hc h)
    have HZ := Lib.hid hz
    obtain ⟨n, hn⟩ : ∃ n, xs.length = n := ⟨_, rfl⟩
    rw [hn] at MA ⊢
    clear hA h hc hz hn
    go_enter Try.func13, Try.ntmps13
    go_wp2_with (go_at_call 36; ((with_reducible refine MA.out.mono ?_); rintro e w9 ⟨rfl, hw⟩; rw [hw]; clear hw))
    go_ret
    exact ⟨_, rfl, .inl ⟨HZ.out.symm, rfl⟩, Below.refl _ _⟩
theorem back_o (v : Value) (xs zs : List Int) (w : World) (hv : IN w v xs) (hz : one backS xs = zs) :
    Calls Try.prog 15 #[v] w fun e w' => ∃ t, e = .returned t ∧ OUT w.heap.size w' t zs ∧ Below w.heap.size w w' := by
  obtain ⟨A, c, rfl, hA, hc, _⟩ := hv
  unfold one at hz
  by_cases h : P xs
  · rw [if_pos h] at hz
    have RA := IN.rd hA h
    rw [h.1] at hc ⊢
    refine (back_any A c _ _ w RA hc h.pf rfl).mono ?_
    rintro e w' ⟨g, c1, rfl, hc1, hg, hI, hB⟩
    exact ⟨_, rfl, .inr ⟨g, c1, _, rfl, hc1, hg, hz.symm, hI⟩, hB⟩
  · rw [if_neg h] at hz
    have MA := Lib.hid (may_not A _ c xs w hA rfl hc h)
    have HZ := Lib.hid hz
    obtain ⟨n, hn⟩ : ∃ n, xs.length = n := ⟨_, rfl⟩
    rw [hn] at MA ⊢
    clear hA h hc hz hn
    go_enter Try.func15, Try.ntmps15
    go_wp2_with (go_at_call 36; ((with_reducible refine MA.out.mono ?_); rintro e w9 ⟨rfl, hw⟩; rw [hw]; clear hw))
    go_ret
    exact ⟨_, rfl, .inl ⟨HZ.out.symm, rfl⟩, Below.refl _ _⟩
theorem rAdd_o (v u : Value) (xs ys zs : List Int) (w : World) (hv : IN w v xs) (hu : IN w u ys) (hz : two addS xs ys = zs) :
    Calls Try.prog 26 #[v, u] w fun e w' => ∃ t, e = .returned t ∧ OUT w.heap.size w' t zs ∧ Below w.heap.size w w' := by
  obtain ⟨A, c, rfl, hA, hc, _⟩ := hv
  obtain ⟨B, d, rfl, hB, hd, _⟩ := hu
  unfold two at hz
  by_cases h : P xs ∧ P ys
  · rw [if_pos h] at hz
    have RA := IN.rd hA h.1
    have RB := IN.rd hB h.2
    rw [h.1.1] at hc ⊢
    rw [h.2.1] at hd ⊢
    refine (rAdd_any A B c d _ _ _ w RA RB hc hd h.1.pf h.2.pf rfl).mono ?_
    rintro e w' ⟨g, c1, rfl, hc1, hg, hI, hB⟩
    exact ⟨_, rfl, .inr ⟨g, c1, _, rfl, hc1, hg, hz.symm, hI⟩, hB⟩
  · rw [if_neg h] at hz
    have HZ := Lib.hid hz
    by_cases hx : P xs
    · have hy : ¬ P ys := fun hy => h ⟨hx, hy⟩
      have RA := IN.rd hA hx
      obtain ⟨m, hm⟩ : ∃ n, ys.length = n := ⟨_, rfl⟩
      have MB := Lib.hid (fun W (hb : Below w.heap.size w W) => rmay_not B m d ys W (Kd.C_below hB hb) hm.symm (by rw [← hm]; exact hd) hy)
      rw [hx.1] at hc ⊢
      rw [hm]
      have MA := Lib.hid (rmay_any A c (rf xs) w RA hc hx.pf)
      clear hA hB h hx hy hz hm hd RA
      go_enter Try.func26, Try.ntmps26
      go_wp2_with fail
      with_reducible refine MA.out.mono ?_
      rintro e w1 ⟨rfl, hB⟩
      have HB := Lib.hid hB
      clear hB
      go_wp2_with fail
      with_reducible refine (MB.out _ HB.out).mono ?_
      rintro e w2 ⟨rfl, hB⟩
      have HB := Lib.hid (below_step HB.out hB)
      clear hB
      go_wp2
      go_ret
      exact ⟨_, rfl, .inl ⟨HZ.out.symm, rfl⟩, HB.out⟩
    · obtain ⟨m, hm⟩ : ∃ n, ys.length = n := ⟨_, rfl⟩
      have MA := Lib.hid (rmay_not A _ c xs w hA rfl hc hx)
      obtain ⟨n, hn⟩ : ∃ n, xs.length = n := ⟨_, rfl⟩
      rw [hn] at MA ⊢
      rw [hm]
      clear hA hB h hx hz hm hd hc hn
      go_enter Try.func26, Try.ntmps26
      go_wp2_with fail
      with_reducible refine MA.out.mono ?_
      rintro e w1 ⟨rfl, hB⟩
      have HB := Lib.hid hB
      clear hB
      go_wp2
      go_ret
      exact ⟨_, rfl, .inl ⟨HZ.out.symm, rfl⟩, HB.out⟩
theorem rSub_o (v u : Value) (xs ys zs : List Int) (w : World) (hv : IN w v xs) (hu : IN w u ys) (hz : two subS xs ys = zs) :
    Calls Try.prog 27 #[v, u] w fun e w' => ∃ t, e = .returned t ∧ OUT w.heap.size w' t zs ∧ Below w.heap.size w w' := by
  obtain ⟨A, c, rfl, hA, hc, _⟩ := hv
  obtain ⟨B, d, rfl, hB, hd, _⟩ := hu
  unfold two at hz
  by_cases h : P xs ∧ P ys
  · rw [if_pos h] at hz
    have RA := IN.rd hA h.1
    have RB := IN.rd hB h.2
    rw [h.1.1] at hc ⊢
    rw [h.2.1] at hd ⊢
    refine (rSub_any A B c d _ _ _ w RA RB hc hd h.1.pf h.2.pf rfl).mono ?_
    rintro e w' ⟨g, c1, rfl, hc1, hg, hI, hB⟩
    exact ⟨_, rfl, .inr ⟨g, c1, _, rfl, hc1, hg, hz.symm, hI⟩, hB⟩
  · rw [if_neg h] at hz
    have HZ := Lib.hid hz
    by_cases hx : P xs
    · have hy : ¬ P ys := fun hy => h ⟨hx, hy⟩
      have RA := IN.rd hA hx
      obtain ⟨m, hm⟩ : ∃ n, ys.length = n := ⟨_, rfl⟩
      have MB := Lib.hid (fun W (hb : Below w.heap.size w W) => rmay_not B m d ys W (Kd.C_below hB hb) hm.symm (by rw [← hm]; exact hd) hy)
      rw [hx.1] at hc ⊢
      rw [hm]
      have MA := Lib.hid (rmay_any A c (rf xs) w RA hc hx.pf)
      clear hA hB h hx hy hz hm hd RA
      go_enter Try.func27, Try.ntmps27
      go_wp2_with fail
      with_reducible refine MA.out.mono ?_
      rintro e w1 ⟨rfl, hB⟩
      have HB := Lib.hid hB
      clear hB
      go_wp2_with fail
      with_reducible refine (MB.out _ HB.out).mono ?_
      rintro e w2 ⟨rfl, hB⟩
      have HB := Lib.hid (below_step HB.out hB)
      clear hB
      go_wp2
      go_ret
      exact ⟨_, rfl, .inl ⟨HZ.out.symm, rfl⟩, HB.out⟩
    · obtain ⟨m, hm⟩ : ∃ n, ys.length = n := ⟨_, rfl⟩
      have MA := Lib.hid (rmay_not A _ c xs w hA rfl hc hx)
      obtain ⟨n, hn⟩ : ∃ n, xs.length = n := ⟨_, rfl⟩
      rw [hn] at MA ⊢
      rw [hm]
      clear hA hB h hx hz hm hd hc hn
      go_enter Try.func27, Try.ntmps27
      go_wp2_with fail
      with_reducible refine MA.out.mono ?_
      rintro e w1 ⟨rfl, hB⟩
      have HB := Lib.hid hB
      clear hB
      go_wp2
      go_ret
      exact ⟨_, rfl, .inl ⟨HZ.out.symm, rfl⟩, HB.out⟩
theorem rTimes_o (v u : Value) (xs ys zs : List Int) (w : World) (hv : IN w v xs) (hu : IN w u ys) (hz : two mulS xs ys = zs) :
    Calls Try.prog 30 #[v, u] w fun e w' => ∃ t, e = .returned t ∧ OUT w.heap.size w' t zs ∧ Below w.heap.size w w' := by
  obtain ⟨A, c, rfl, hA, hc, _⟩ := hv
  obtain ⟨B, d, rfl, hB, hd, _⟩ := hu
  unfold two at hz
  by_cases h : P xs ∧ P ys
  · rw [if_pos h] at hz
    have RA := IN.rd hA h.1
    have RB := IN.rd hB h.2
    rw [h.1.1] at hc ⊢
    rw [h.2.1] at hd ⊢
    refine (rTimes_any A B c d _ _ _ w RA RB hc hd h.1.pf h.2.pf rfl).mono ?_
    rintro e w' ⟨g, c1, rfl, hc1, hg, hI, hB⟩
    exact ⟨_, rfl, .inr ⟨g, c1, _, rfl, hc1, hg, hz.symm, hI⟩, hB⟩
  · rw [if_neg h] at hz
    have HZ := Lib.hid hz
    by_cases hx : P xs
    · have hy : ¬ P ys := fun hy => h ⟨hx, hy⟩
      have RA := IN.rd hA hx
      obtain ⟨m, hm⟩ : ∃ n, ys.length = n := ⟨_, rfl⟩
      have MB := Lib.hid (fun W (hb : Below w.heap.size w W) => rmay_not B m d ys W (Kd.C_below hB hb) hm.symm (by rw [← hm]; exact hd) hy)
      rw [hx.1] at hc ⊢
      rw [hm]
      have MA := Lib.hid (rmay_any A c (rf xs) w RA hc hx.pf)
      clear hA hB h hx hy hz hm hd RA
      go_enter Try.func30, Try.ntmps30
      go_wp2_with fail
      with_reducible refine MA.out.mono ?_
      rintro e w1 ⟨rfl, hB⟩
      have HB := Lib.hid hB
      clear hB
      go_wp2_with fail
      with_reducible refine (MB.out _ HB.out).mono ?_
      rintro e w2 ⟨rfl, hB⟩
      have HB := Lib.hid (below_step HB.out hB)
      clear hB
      go_wp2
      go_ret
      exact ⟨_, rfl, .inl ⟨HZ.out.symm, rfl⟩, HB.out⟩
    · obtain ⟨m, hm⟩ : ∃ n, ys.length = n := ⟨_, rfl⟩
      have MA := Lib.hid (rmay_not A _ c xs w hA rfl hc hx)
      obtain ⟨n, hn⟩ : ∃ n, xs.length = n := ⟨_, rfl⟩
      rw [hn] at MA ⊢
      rw [hm]
      clear hA hB h hx hz hm hd hc hn
      go_enter Try.func30, Try.ntmps30
      go_wp2_with fail
      with_reducible refine MA.out.mono ?_
      rintro e w1 ⟨rfl, hB⟩
      have HB := Lib.hid hB
      clear hB
      go_wp2
      go_ret
      exact ⟨_, rfl, .inl ⟨HZ.out.symm, rfl⟩, HB.out⟩
theorem rover_o (v : Value) (xs zs : List Int) (w : World) (hv : IN w v xs) (hz : one overS xs = zs) :
    Calls Try.prog 28 #[v] w fun e w' => ∃ t, e = .returned t ∧ OUT w.heap.size w' t zs ∧ Below w.heap.size w w' := by
  obtain ⟨A, c, rfl, hA, hc, _⟩ := hv
  unfold one at hz
  by_cases h : P xs
  · rw [if_pos h] at hz
    have RA := IN.rd hA h
    rw [h.1] at hc ⊢
    refine (rover_any A c _ _ w RA hc h.pf rfl).mono ?_
    rintro e w' ⟨g, c1, rfl, hc1, hg, hI, hB⟩
    exact ⟨_, rfl, .inr ⟨g, c1, _, rfl, hc1, hg, hz.symm, hI⟩, hB⟩
  · rw [if_neg h] at hz
    have MA := Lib.hid (rmay_not A _ c xs w hA rfl hc h)
    have HZ := Lib.hid hz
    obtain ⟨n, hn⟩ : ∃ n, xs.length = n := ⟨_, rfl⟩
    rw [hn] at MA ⊢
    clear hA h hc hz hn
    go_enter Try.func28, Try.ntmps28
    go_wp2_with fail
    with_reducible refine MA.out.mono ?_
    rintro e w1 ⟨rfl, hB⟩
    have HB := Lib.hid hB
    clear hB
    go_wp2
    go_ret
    exact ⟨_, rfl, .inl ⟨HZ.out.symm, rfl⟩, HB.out⟩
theorem rback_o (v : Value) (xs zs : List Int) (w : World) (hv : IN w v xs) (hz : one backS xs = zs) :
    Calls Try.prog 29 #[v] w fun e w' => ∃ t, e = .returned t ∧ OUT w.heap.size w' t zs ∧ Below w.heap.size w w' := by
  obtain ⟨A, c, rfl, hA, hc, _⟩ := hv
  unfold one at hz
  by_cases h : P xs
  · rw [if_pos h] at hz
    have RA := IN.rd hA h
    rw [h.1] at hc ⊢
    refine (rback_any A c _ _ w RA hc h.pf rfl).mono ?_
    rintro e w' ⟨g, c1, rfl, hc1, hg, hI, hB⟩
    exact ⟨_, rfl, .inr ⟨g, c1, _, rfl, hc1, hg, hz.symm, hI⟩, hB⟩
  · rw [if_neg h] at hz
    have MA := Lib.hid (rmay_not A _ c xs w hA rfl hc h)
    have HZ := Lib.hid hz
    obtain ⟨n, hn⟩ : ∃ n, xs.length = n := ⟨_, rfl⟩
    rw [hn] at MA ⊢
    clear hA h hc hz hn
    go_enter Try.func29, Try.ntmps29
    go_wp2_with fail
    with_reducible refine MA.out.mono ?_
    rintro e w1 ⟨rfl, hB⟩
    have HB := Lib.hid hB
    clear hB
    go_wp2
    go_ret
    exact ⟨_, rfl, .inl ⟨HZ.out.symm, rfl⟩, HB.out⟩
theorem may_o (v : Value) (xs : List Int) (b : Bool) (w : World) (hv : IN w v xs) (hb : decide (P xs) = b) : Calls Try.prog 36 #[v] w fun e w' => e = .returned (.bool b) ∧ w' = w := by
  obtain ⟨A, c, rfl, hA, hc, _⟩ := hv
  by_cases h : P xs
  · have RA := IN.rd hA h
    rw [h.1] at hc ⊢
    rw [← hb, decide_eq_true h]
    exact may_any A c (rf xs) w RA hc h.pf
  · rw [← hb, decide_eq_false h]
    exact may_not A _ c xs w hA rfl hc h
theorem rmay_o (v : Value) (xs : List Int) (b : Bool) (w : World) (hv : IN w v xs) (hb : decide (P xs) = b) : Calls Try.prog 37 #[v] w fun e w' => e = .returned (.bool b) ∧ Below w.heap.size w w' := by
  obtain ⟨A, c, rfl, hA, hc, _⟩ := hv
  by_cases h : P xs
  · have RA := IN.rd hA h
    rw [h.1] at hc ⊢
    rw [← hb, decide_eq_true h]
    exact rmay_any A c (rf xs) w RA hc h.pf
  · rw [← hb, decide_eq_false h]
    exact rmay_not A _ c xs w hA rfl hc h
theorem same_o (v u : Value) (xs ys : List Int) (w : World) (hv : IN w v xs) (hu : IN w u ys) (he : xs = ys) : Calls Try.prog 14 #[v, u] w fun e w' => e = .returned (.bool true) ∧ Drawn0 w w' := by
  obtain ⟨A, c, rfl, hA, hc, hl⟩ := hv
  obtain ⟨B, d, rfl, hB, hd, _⟩ := hu
  exact sameI_any A B _ _ c d xs ys w hA hB rfl rfl hc hd (by omega) he
theorem nil_R (w : World) (b : Nat) : RI w b (.slice none 0 0) [] := ⟨fun _ _ => trivial, [], ⟨rfl, .inl ⟨rfl, rfl⟩⟩, ⟨rfl, fun j p hp => by simp at hp⟩⟩
theorem OUTS.R {b : Nat} {w : World} {v : Value} {xs : List Int} (h : OUTS b w v xs) : RI w b v xs ∧ xs.length < 1000000 := by
  rcases h with ⟨rfl, rfl⟩ | ⟨g, c, f, rfl, hg, rfl, h⟩
  · exact ⟨nil_R w b, by simp⟩
  · exact ⟨h.R hg, by rw [ls_len]; omega⟩
theorem overI_o (b : Nat) (v : Value) (xs : List Int) (w0 w : World) (hv : OUTS b w v xs) (hB : Below w0.heap.size w0 w) (hb : w0.heap.size ≤ b) : Calls Try.prog 32 #[v] w fun e w' => e = .returned (.tuple #[]) ∧ Below w0.heap.size w0 w' ∧ Kept w w' (fun j => some j = v.ownBlock) :=
  overI_any w0 w b v xs hB hb hv.R.1 hv.R.2
end Go.Proofs.Ytebicdjnhogniaa.T
