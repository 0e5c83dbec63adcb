/- each, by its three closures; Add, Sub, Times (printed by gen_each.py). -/
import Derived.Test.YtebicdjnhogniaaMy
namespace Go.Proofs.Ytebicdjnhogniaa.T
open Go.RowKit Go.Proofs.Ytebicdjnhogniaa.PWaveRing Go.Proofs.YtebicdjnhogniaaW.PrintWords Go.Proofs.YtebicdjnhogniaaW.PrintLast
set_option linter.unusedVariables false
set_option linter.unusedSimpArgs false
theorem make_IR {ops : Array Oper} {rest : List Oper} {o : Oper} {a : Act} {Q : Exit → Act → World → Prop} {W : World} (hgd : o.guard = none) {N : Tmp} (hd : o.dst = some N) (ho : o.op = .makeSlice 22 (.const (.int .i64 256)) (.const (.int .i64 256)))
    (h : ∀ g c w1, 256 ≤ c → IR w1 g (fun _ => 0) → Below W.heap.size W w1 → W.heap.size ≤ g → wpList Try.prog ops Q rest (a.put o.dst (sl g c)) w1) : wpList Try.prog ops Q (o :: rest) a W := by
  refine Kd.R_make (Kd.int .i64) W.heap.size 3 hgd (N := N) hd 22 _ _ ho 256 rfl rfl Try.underlying22 (.int .i64 0) 8 info3 rfl (by decide) (by omega) 0 (ok := fun _ => True) (okp := fun _ => True) rfl (fun _ hk => hk) trivial (by omega) (by decide) (Below.refl _ _) (Nat.le_refl _) ?_
  intro v w1 hR hB _ _
  obtain ⟨g, c, rfl, hc, hg, hI⟩ := ir_of_R (f := fun _ => 0) hR (by rw [List.length_replicate]; rfl) (fun i hi => by rw [List.getElem?_replicate, if_pos (show i < Int.toNat 256 from hi)])
  exact h g c w1 hc hI hB hg
def flt (i : Nat) (new : F) : F := fun j => if j < i then new j else 0
theorem flt_succ (i : Nat) (new : F) : upd (flt i new) i (new i) = flt (i + 1) new := by
  funext j
  unfold upd flt
  by_cases h : j = i
  · subst h; simp
  · rw [if_neg h]
    by_cases h2 : j < i
    · rw [if_pos h2, if_pos (by omega)]
    · rw [if_neg h2, if_neg (by omega)]
theorem flt_zero (new : F) : flt 0 new = fun _ => 0 := by funext j; simp [flt]
theorem flt_all (new : F) (j : Nat) (h : j < 256) : flt 256 new j = new j := by simp [flt, h]
def EachRel (w : World) (h : F) (g1 : Nat) (v : Value) (w' : World) : Prop := ∃ i : Nat, i ≤ 256 ∧ v = .int .i64 i ∧ IR w' g1 (flt i h) ∧ Below w.heap.size w w'
def addS (f g : F) : F := fun i => (f i + g i) % 8380417
def subS (f g : F) : F := fun i => (f i + 8380417 - g i) % 8380417
def mulS (f g : F) : F := fun i => (f i * g i) % 8380417
theorem addS_PF (f g : F) : PF (addS f g) := fun i _ => by unfold addS; omega
theorem subS_PF (f g : F) : PF (subS f g) := fun i _ => by unfold subS; omega
theorem mulS_PF (f g : F) : PF (mulS f g) := fun i _ => by unfold mulS; exact ⟨Int.emod_nonneg _ (by omega), Int.emod_lt_of_pos _ (by omega)⟩
theorem mul_bd {a b : Int} (h0 : 0 ≤ a) (h1 : a < 8380417) (h2 : 0 ≤ b) (h3 : b ≤ 20000000) : 0 ≤ a * b ∧ a * b ≤ 167608340000000 :=
  ⟨Int.mul_nonneg h0 h2, Int.le_trans (Int.mul_le_mul (show a ≤ 8380417 by omega) h3 h2 (by omega)) (by omega)⟩
set_option maxHeartbeats 1000000 in
set_option maxRecDepth 20000 in
theorem each_add (A B : Option Addr) (c d : Nat) (f g h : F) (w : World) (hA : RD w A f) (hB : RD w B g) (hc : 256 ≤ c) (hd : 256 ≤ d) (hf : PF f) (hg : PF g) (hh : addS f g = h) :
    Calls Try.prog 42 #[.slice A 256 c, .slice B 256 d, fnV 43] w fun e w' => ∃ g1 c1, e = .returned (sl g1 c1) ∧ 256 ≤ c1 ∧ w.heap.size ≤ g1 ∧ IR w' g1 h ∧ Below w.heap.size w w' := by
  have MA := Lib.hid (may_any A c f w hA hc hf)
  have MB := Lib.hid (may_any B d g w hB hd hg)
  have HA := Lib.hid hA
  have HB := Lib.hid hB
  have PA := Lib.hid hf
  have PB := Lib.hid hg
  have HH := Lib.hid hh
  clear hA hB hf hg hh
  go_enter Try.func42, Try.ntmps42
  go_wp2_with (first
    | (go_at_call 36; (first | ((with_reducible refine MA.out.mono ?_); rintro e w9 ⟨rfl, hw⟩; rw [hw]; clear hw) | ((with_reducible refine MB.out.mono ?_); rintro e w9 ⟨rfl, hw⟩; rw [hw]; clear hw)))
    | ((with_reducible refine gate_dst (N := 17) rfl ?_); refine make_IR rfl rfl rfl ?_; intro g1 c1 w1 hc1 hI hB hg; have I1 := Lib.hid hI; have B1 := Lib.hid hB; have G1 := Lib.hid hg; clear hI hB hg))
  have C1 := Lib.hid hc1
  clear MA MB hc1
  go_loopw [20] (fun v w' => EachRel w h g1 v w') (fun v _ => (256 - intOf v).toNat)
  case atStart => exact ⟨0, by omega, rfl, by rw [flt_zero]; exact I1.out, B1.out⟩
  case round =>
    clear I1 B1
    obtain ⟨i, hi, rfl, hI, hBl⟩ := hrel
    by_cases hlt : i < 256
    · have hpd : decide ((i : Int) < 256) = true := decide_eq_true (by omega)
      have hii : (i : Int) < 256 := by omega
      obtain ⟨ad, hA0, hcx⟩ : ∃ ad, A = some ad ∧ wr.cell? (ad.add i) = some (.int .i64 (f i)) := by obtain ⟨ad, e, hc⟩ := HA.out.below hBl; exact ⟨ad, e, hc i hlt⟩
      obtain ⟨bd, hB0, hcy⟩ : ∃ ad, B = some ad ∧ wr.cell? (ad.add i) = some (.int .i64 (g i)) := by obtain ⟨ad, e, hc⟩ := HB.out.below hBl; exact ⟨ad, e, hc i hlt⟩
      subst hA0 hB0
      have bx := PA.out i hlt
      have by0 := PB.out i hlt
      obtain ⟨x0, hx0⟩ : ∃ x, f i = x := ⟨_, rfl⟩
      obtain ⟨y0, hy0⟩ : ∃ x, g i = x := ⟨_, rfl⟩
      rw [hx0] at hcx bx
      rw [hy0] at hcy by0
      have W1 : IntKind.i64.wrap (x0 + y0) = x0 + y0 := IntWalk.i64_in _ (by omega)
      have K := Lib.hid (fun W => add1_any x0 y0 _ W W1)
      obtain ⟨r0, hr0⟩ : ∃ r, x0 + y0 = r := ⟨_, rfl⟩
      rw [hr0] at K
      have hm : Int.tmod r0 8380417 = h i := by rw [Int.tmod_eq_emod_of_nonneg (by omega), ← hr0, ← hx0, ← hy0, ← HH.out]; rfl
      have E := Lib.hid (show upd (flt i h) i (h i) = flt (i + 1) h from flt_succ i h)
      obtain ⟨z0, hz0⟩ : ∃ z, h i = z := ⟨_, rfl⟩
      rw [hz0] at hm E
      have hc := hI.cell i hlt
      have hfz := hI.frozen i
      have HI := Lib.hid hI
      have BL := Lib.hid hBl
      clear hI hBl hx0 hy0 hr0 hz0
      go_wp2_with fail
      refine wp_region_still_tail 14 (by kernel_rfl) (by kernel_rfl) ?_
      simp only [List.take_succ_cons, List.take_zero, List.drop_succ_cons, List.drop_zero]
      repeat still_step
      still_call (K.out _)
      repeat still_step
      refine wpStill_nil ?_
      change wpList _ _ _ _ _ wr.drew
      have HI : Hid (IR wr.drew g1 (flt i h)) := Lib.hid HI.out
      have BL : Hid (Below w.heap.size w wr.drew) := Lib.hid BL.out.drew
      have hfz := HI.out.frozen i
      have hc := HI.out.cell i hlt
      generalize wr.drew = w5 at HI BL hfz hc ⊢
      clear hcx hcy
      go_wp2
      go_roundw
      case rel =>
        have hrel : EachRel w h g1 (.int .i64 ((i : Int) + 1)) (w5.setCell ⟨g1, i, none⟩ (.int .i64 z0)) := ⟨i + 1, by omega, by go_num, by rw [← E.out]; exact HI.out.set i z0, BL.out.setCell G1.out _⟩
        first
        | exact hrel
        | (repeat apply Exists.intro
           exact ⟨hrel, rfl⟩)
      case measure => simp [intOf]; omega
    · have e : i = 256 := by omega
      subst e
      have HI := Lib.hid (hI.ext (flt_all h))
      have BL := Lib.hid hBl
      clear hI hBl hi hlt
      go_wp2
      go_ret
      exact ⟨_, _, rfl, C1.out, G1.out, HI.out, BL.out⟩
set_option maxHeartbeats 1000000 in
set_option maxRecDepth 20000 in
theorem each_sub (A B : Option Addr) (c d : Nat) (f g h : F) (w : World) (hA : RD w A f) (hB : RD w B g) (hc : 256 ≤ c) (hd : 256 ≤ d) (hf : PF f) (hg : PF g) (hh : subS f g = h) :
    Calls Try.prog 42 #[.slice A 256 c, .slice B 256 d, fnV 46] w fun e w' => ∃ g1 c1, e = .returned (sl g1 c1) ∧ 256 ≤ c1 ∧ w.heap.size ≤ g1 ∧ IR w' g1 h ∧ Below w.heap.size w w' := by
  have MA := Lib.hid (may_any A c f w hA hc hf)
  have MB := Lib.hid (may_any B d g w hB hd hg)
  have HA := Lib.hid hA
  have HB := Lib.hid hB
  have PA := Lib.hid hf
  have PB := Lib.hid hg
  have HH := Lib.hid hh
  clear hA hB hf hg hh
  go_enter Try.func42, Try.ntmps42
  go_wp2_with (first
    | (go_at_call 36; (first | ((with_reducible refine MA.out.mono ?_); rintro e w9 ⟨rfl, hw⟩; rw [hw]; clear hw) | ((with_reducible refine MB.out.mono ?_); rintro e w9 ⟨rfl, hw⟩; rw [hw]; clear hw)))
    | ((with_reducible refine gate_dst (N := 17) rfl ?_); refine make_IR rfl rfl rfl ?_; intro g1 c1 w1 hc1 hI hB hg; have I1 := Lib.hid hI; have B1 := Lib.hid hB; have G1 := Lib.hid hg; clear hI hB hg))
  have C1 := Lib.hid hc1
  clear MA MB hc1
  go_loopw [20] (fun v w' => EachRel w h g1 v w') (fun v _ => (256 - intOf v).toNat)
  case atStart => exact ⟨0, by omega, rfl, by rw [flt_zero]; exact I1.out, B1.out⟩
  case round =>
    clear I1 B1
    obtain ⟨i, hi, rfl, hI, hBl⟩ := hrel
    by_cases hlt : i < 256
    · have hpd : decide ((i : Int) < 256) = true := decide_eq_true (by omega)
      have hii : (i : Int) < 256 := by omega
      obtain ⟨ad, hA0, hcx⟩ : ∃ ad, A = some ad ∧ wr.cell? (ad.add i) = some (.int .i64 (f i)) := by obtain ⟨ad, e, hc⟩ := HA.out.below hBl; exact ⟨ad, e, hc i hlt⟩
      obtain ⟨bd, hB0, hcy⟩ : ∃ ad, B = some ad ∧ wr.cell? (ad.add i) = some (.int .i64 (g i)) := by obtain ⟨ad, e, hc⟩ := HB.out.below hBl; exact ⟨ad, e, hc i hlt⟩
      subst hA0 hB0
      have bx := PA.out i hlt
      have by0 := PB.out i hlt
      obtain ⟨x0, hx0⟩ : ∃ x, f i = x := ⟨_, rfl⟩
      obtain ⟨y0, hy0⟩ : ∃ x, g i = x := ⟨_, rfl⟩
      rw [hx0] at hcx bx
      rw [hy0] at hcy by0
      have W1 : IntKind.i64.wrap (x0 + 8380417) = x0 + 8380417 := IntWalk.i64_in _ (by omega)
      have W2 : IntKind.i64.wrap (x0 + 8380417 - y0) = x0 + 8380417 - y0 := IntWalk.i64_in _ (by omega)
      have K := Lib.hid (fun W => sub1_any x0 y0 _ _ W W1 W2)
      obtain ⟨r0, hr0⟩ : ∃ r, x0 + 8380417 - y0 = r := ⟨_, rfl⟩
      rw [hr0] at K
      have hm : Int.tmod r0 8380417 = h i := by rw [Int.tmod_eq_emod_of_nonneg (by omega), ← hr0, ← hx0, ← hy0, ← HH.out]; rfl
      have E := Lib.hid (show upd (flt i h) i (h i) = flt (i + 1) h from flt_succ i h)
      obtain ⟨z0, hz0⟩ : ∃ z, h i = z := ⟨_, rfl⟩
      rw [hz0] at hm E
      have hc := hI.cell i hlt
      have hfz := hI.frozen i
      have HI := Lib.hid hI
      have BL := Lib.hid hBl
      clear hI hBl hx0 hy0 hr0 hz0
      go_wp2_with fail
      refine wp_region_still_tail 14 (by kernel_rfl) (by kernel_rfl) ?_
      simp only [List.take_succ_cons, List.take_zero, List.drop_succ_cons, List.drop_zero]
      repeat still_step
      still_call (K.out _)
      repeat still_step
      refine wpStill_nil ?_
      change wpList _ _ _ _ _ wr.drew
      have HI : Hid (IR wr.drew g1 (flt i h)) := Lib.hid HI.out
      have BL : Hid (Below w.heap.size w wr.drew) := Lib.hid BL.out.drew
      have hfz := HI.out.frozen i
      have hc := HI.out.cell i hlt
      generalize wr.drew = w5 at HI BL hfz hc ⊢
      clear hcx hcy
      go_wp2
      go_roundw
      case rel =>
        have hrel : EachRel w h g1 (.int .i64 ((i : Int) + 1)) (w5.setCell ⟨g1, i, none⟩ (.int .i64 z0)) := ⟨i + 1, by omega, by go_num, by rw [← E.out]; exact HI.out.set i z0, BL.out.setCell G1.out _⟩
        first
        | exact hrel
        | (repeat apply Exists.intro
           exact ⟨hrel, rfl⟩)
      case measure => simp [intOf]; omega
    · have e : i = 256 := by omega
      subst e
      have HI := Lib.hid (hI.ext (flt_all h))
      have BL := Lib.hid hBl
      clear hI hBl hi hlt
      go_wp2
      go_ret
      exact ⟨_, _, rfl, C1.out, G1.out, HI.out, BL.out⟩
set_option maxHeartbeats 1000000 in
set_option maxRecDepth 20000 in
theorem each_mul (A B : Option Addr) (c d : Nat) (f g h : F) (w : World) (hA : RD w A f) (hB : RD w B g) (hc : 256 ≤ c) (hd : 256 ≤ d) (hf : PF f) (hg : PF g) (hh : mulS f g = h) :
    Calls Try.prog 42 #[.slice A 256 c, .slice B 256 d, fnV 45] w fun e w' => ∃ g1 c1, e = .returned (sl g1 c1) ∧ 256 ≤ c1 ∧ w.heap.size ≤ g1 ∧ IR w' g1 h ∧ Below w.heap.size w w' := by
  have MA := Lib.hid (may_any A c f w hA hc hf)
  have MB := Lib.hid (may_any B d g w hB hd hg)
  have HA := Lib.hid hA
  have HB := Lib.hid hB
  have PA := Lib.hid hf
  have PB := Lib.hid hg
  have HH := Lib.hid hh
  clear hA hB hf hg hh
  go_enter Try.func42, Try.ntmps42
  go_wp2_with (first
    | (go_at_call 36; (first | ((with_reducible refine MA.out.mono ?_); rintro e w9 ⟨rfl, hw⟩; rw [hw]; clear hw) | ((with_reducible refine MB.out.mono ?_); rintro e w9 ⟨rfl, hw⟩; rw [hw]; clear hw)))
    | ((with_reducible refine gate_dst (N := 17) rfl ?_); refine make_IR rfl rfl rfl ?_; intro g1 c1 w1 hc1 hI hB hg; have I1 := Lib.hid hI; have B1 := Lib.hid hB; have G1 := Lib.hid hg; clear hI hB hg))
  have C1 := Lib.hid hc1
  clear MA MB hc1
  go_loopw [20] (fun v w' => EachRel w h g1 v w') (fun v _ => (256 - intOf v).toNat)
  case atStart => exact ⟨0, by omega, rfl, by rw [flt_zero]; exact I1.out, B1.out⟩
  case round =>
    clear I1 B1
    obtain ⟨i, hi, rfl, hI, hBl⟩ := hrel
    by_cases hlt : i < 256
    · have hpd : decide ((i : Int) < 256) = true := decide_eq_true (by omega)
      have hii : (i : Int) < 256 := by omega
      obtain ⟨ad, hA0, hcx⟩ : ∃ ad, A = some ad ∧ wr.cell? (ad.add i) = some (.int .i64 (f i)) := by obtain ⟨ad, e, hc⟩ := HA.out.below hBl; exact ⟨ad, e, hc i hlt⟩
      obtain ⟨bd, hB0, hcy⟩ : ∃ ad, B = some ad ∧ wr.cell? (ad.add i) = some (.int .i64 (g i)) := by obtain ⟨ad, e, hc⟩ := HB.out.below hBl; exact ⟨ad, e, hc i hlt⟩
      subst hA0 hB0
      have bx := PA.out i hlt
      have by0 := PB.out i hlt
      obtain ⟨x0, hx0⟩ : ∃ x, f i = x := ⟨_, rfl⟩
      obtain ⟨y0, hy0⟩ : ∃ x, g i = x := ⟨_, rfl⟩
      rw [hx0] at hcx bx
      rw [hy0] at hcy by0
      have mb := mul_bd bx.1 bx.2 by0.1 (show y0 ≤ 20000000 by omega)
      have W1 : IntKind.i64.wrap (x0 * y0) = x0 * y0 := IntWalk.i64_in _ (by omega)
      have K := Lib.hid (fun W => mul1_any x0 y0 _ W W1)
      obtain ⟨r0, hr0⟩ : ∃ r, x0 * y0 = r := ⟨_, rfl⟩
      rw [hr0] at K mb
      have hm : Int.tmod r0 8380417 = h i := by rw [Int.tmod_eq_emod_of_nonneg (by omega), ← hr0, ← hx0, ← hy0, ← HH.out]; rfl
      have E := Lib.hid (show upd (flt i h) i (h i) = flt (i + 1) h from flt_succ i h)
      obtain ⟨z0, hz0⟩ : ∃ z, h i = z := ⟨_, rfl⟩
      rw [hz0] at hm E
      have hc := hI.cell i hlt
      have hfz := hI.frozen i
      have HI := Lib.hid hI
      have BL := Lib.hid hBl
      clear hI hBl hx0 hy0 hr0 hz0
      go_wp2_with fail
      refine wp_region_still_tail 14 (by kernel_rfl) (by kernel_rfl) ?_
      simp only [List.take_succ_cons, List.take_zero, List.drop_succ_cons, List.drop_zero]
      repeat still_step
      still_call (K.out _)
      repeat still_step
      refine wpStill_nil ?_
      change wpList _ _ _ _ _ wr.drew
      have HI : Hid (IR wr.drew g1 (flt i h)) := Lib.hid HI.out
      have BL : Hid (Below w.heap.size w wr.drew) := Lib.hid BL.out.drew
      have hfz := HI.out.frozen i
      have hc := HI.out.cell i hlt
      generalize wr.drew = w5 at HI BL hfz hc ⊢
      clear hcx hcy
      go_wp2
      go_roundw
      case rel =>
        have hrel : EachRel w h g1 (.int .i64 ((i : Int) + 1)) (w5.setCell ⟨g1, i, none⟩ (.int .i64 z0)) := ⟨i + 1, by omega, by go_num, by rw [← E.out]; exact HI.out.set i z0, BL.out.setCell G1.out _⟩
        first
        | exact hrel
        | (repeat apply Exists.intro
           exact ⟨hrel, rfl⟩)
      case measure => simp [intOf]; omega
    · have e : i = 256 := by omega
      subst e
      have HI := Lib.hid (hI.ext (flt_all h))
      have BL := Lib.hid hBl
      clear hI hBl hi hlt
      go_wp2
      go_ret
      exact ⟨_, _, rfl, C1.out, G1.out, HI.out, BL.out⟩
theorem add_any (A B : Option Addr) (c d : Nat) (f g h : F) (w : World) (hA : RD w A f) (hB : RD w B g) (hc : 256 ≤ c) (hd : 256 ≤ d) (hf : PF f) (hg : PF g) (hh : addS f g = h) :
    Calls Try.prog 16 #[.slice A 256 c, .slice B 256 d] w fun e w' => ∃ g1 c1, e = .returned (sl g1 c1) ∧ 256 ≤ c1 ∧ w.heap.size ≤ g1 ∧ IR w' g1 h ∧ Below w.heap.size w w' := by
  have K := Lib.hid (each_add A B c d f g h w hA hB hc hd hf hg hh)
  clear hA hB hf hg hh
  go_enter Try.func16, Try.ntmps16
  go_wp2_with (go_at_call 42; (with_reducible refine K.out.mono ?_); rintro e w' ⟨g1, c1, rfl, hc1, hg1, hI, hB⟩; have HI := Lib.hid hI; have HB := Lib.hid hB; clear hI hB)
  go_ret
  exact ⟨g1, c1, rfl, hc1, hg1, HI.out, HB.out⟩
theorem sub_any (A B : Option Addr) (c d : Nat) (f g h : F) (w : World) (hA : RD w A f) (hB : RD w B g) (hc : 256 ≤ c) (hd : 256 ≤ d) (hf : PF f) (hg : PF g) (hh : subS f g = h) :
    Calls Try.prog 25 #[.slice A 256 c, .slice B 256 d] w fun e w' => ∃ g1 c1, e = .returned (sl g1 c1) ∧ 256 ≤ c1 ∧ w.heap.size ≤ g1 ∧ IR w' g1 h ∧ Below w.heap.size w w' := by
  have K := Lib.hid (each_sub A B c d f g h w hA hB hc hd hf hg hh)
  clear hA hB hf hg hh
  go_enter Try.func25, Try.ntmps25
  go_wp2_with (go_at_call 42; (with_reducible refine K.out.mono ?_); rintro e w' ⟨g1, c1, rfl, hc1, hg1, hI, hB⟩; have HI := Lib.hid hI; have HB := Lib.hid hB; clear hI hB)
  go_ret
  exact ⟨g1, c1, rfl, hc1, hg1, HI.out, HB.out⟩
theorem times_any (A B : Option Addr) (c d : Nat) (f g h : F) (w : World) (hA : RD w A f) (hB : RD w B g) (hc : 256 ≤ c) (hd : 256 ≤ d) (hf : PF f) (hg : PF g) (hh : mulS f g = h) :
    Calls Try.prog 22 #[.slice A 256 c, .slice B 256 d] w fun e w' => ∃ g1 c1, e = .returned (sl g1 c1) ∧ 256 ≤ c1 ∧ w.heap.size ≤ g1 ∧ IR w' g1 h ∧ Below w.heap.size w w' := by
  have K := Lib.hid (each_mul A B c d f g h w hA hB hc hd hf hg hh)
  clear hA hB hf hg hh
  go_enter Try.func22, Try.ntmps22
  go_wp2_with (go_at_call 42; (with_reducible refine K.out.mono ?_); rintro e w' ⟨g1, c1, rfl, hc1, hg1, hI, hB⟩; have HI := Lib.hid hI; have HB := Lib.hid hB; clear hI hB)
  go_ret
  exact ⟨g1, c1, rfl, hc1, hg1, HI.out, HB.out⟩
end Go.Proofs.Ytebicdjnhogniaa.T
