/- Rows with their room: Add, Over, Back once more, so that what they make may be overwritten (printed by gen_sh.py). -/
import Derived.Test.YtebicdjnhogniaaLendW
import Derived.WalkSpells
namespace Go.Proofs.Ytebicdjnhogniaa.T
open Go.RowKit Go.Proofs.Ytebicdjnhogniaa.PWavePolys Go.Proofs.YtebicdjnhogniaaW.PrintWords Go.Proofs.YtebicdjnhogniaaW.PrintLast
set_option linter.unusedVariables false
set_option linter.unusedSimpArgs false
/-- a row in a block of its own, of just that room. -/
def IS (c : Nat) (w : World) (g : Nat) (f : F) : Prop := ∃ cells, w.heap[g]? = some (.cells cells 3 (0, 0)) ∧ cells.size = c ∧ 256 ≤ c ∧ c ≤ maxLen ∧ ∀ i, i < 256 → cells[i]? = some (.int .i64 (f i))
section
variable {w w1 : World} {c g g' : Nat} {f f' : F}
theorem IS.ir (h : IS c w g f) : IR w g f := by
  obtain ⟨cs, h1, _, _, _, h2⟩ := h
  exact ⟨cs, h1, h2⟩
theorem IS.room (h : IS c w g f) : 256 ≤ c := by
  obtain ⟨cs, h1, _, h3, _, h2⟩ := h
  exact h3
theorem IS.lt (h : IS c w g f) : g < w.heap.size := h.ir.lt
theorem IS.cell (h : IS c w g f) (i : Nat) (hi : i < 256) : w.cell? ⟨g, i, none⟩ = some (.int .i64 (f i)) := h.ir.cell i hi
theorem IS.frozen (h : IS c w g f) (i : Nat) : w.frozen? ⟨g, i, none⟩ = false := h.ir.frozen i
theorem IS.set (h : IS c w g f) (i : Nat) (v : Int) : IS c (w.setCell ⟨g, i, none⟩ (.int .i64 v)) g (upd f i v) := by
  obtain ⟨cs, h1, hs, hm, hx, h2⟩ := h
  refine ⟨_, Go.heap_setCell_same w g i cs 3 _ h1, by simp [hs], hm, hx, fun j hj => ?_⟩
  rw [Array.getElem?_setIfInBounds]
  unfold upd
  by_cases e : i = j
  · subst e
    have := (Array.getElem?_eq_some_iff.1 (h2 i hj)).1
    simp [this]
  · rw [if_neg e, if_neg (fun k => e k.symm), h2 j hj]
theorem IS.other (h : IS c w g f) (hne : g ≠ g') (i : Nat) (v : Value) : IS c (w.setCell ⟨g', i, none⟩ v) g f := by
  obtain ⟨cs, h1, h2⟩ := h
  exact ⟨cs, by rw [heap_setCell_other w _ g v hne]; exact h1, h2⟩
theorem IS.below (h : IS c w g f) (hb : Below w.heap.size w w1) : IS c w1 g f := by
  obtain ⟨cs, h1, h2⟩ := h
  exact ⟨cs, by rw [hb.block g (Array.getElem?_eq_some_iff.1 h1).1]; exact h1, h2⟩
theorem IS.drawn (h : IS c w g f) (d : Drawn0 w w1) : IS c w1 g f := by
  obtain ⟨n, rfl⟩ := d
  exact h
theorem IS.ext (h : IS c w g f) (he : ∀ i, i < 256 → f i = f' i) : IS c w g f' := by
  obtain ⟨cs, h1, hs, hm, hx, h2⟩ := h
  exact ⟨cs, h1, hs, hm, hx, fun i hi => by rw [h2 i hi, he i hi]⟩
theorem IS.rd (h : IS c w g f) : RD w (some ⟨g, 0, none⟩) f := h.ir.rd
theorem IS.R (h : IS c w g f) {base : Nat} (hb : base ≤ g) : Kd.R (Kd.int .i64) 3 w base (fun _ => True) (sl g c) (ls f) := by
  obtain ⟨cs, h1, hs, hm, hx, h2⟩ := h
  have hl : ((List.range 256).map fun i => Value.int .i64 (f i)).length = 256 := by simp
  refine ⟨fun _ _ => trivial, (List.range 256).map fun i => Value.int .i64 (f i), ⟨by rw [hl, ls_len]; rfl, .inr ⟨g, c, cs, by rw [ls_len], hb, h1, by rw [ls_len]; exact hm, hx, by rw [hs]; exact (Nat.mul_one c).symm, ?_⟩⟩, ⟨by rw [hl, ls_len]; rfl, fun j p hp => ?_⟩⟩
  · apply List.ext_getElem?
    intro i
    rw [ls_len]
    show (cs.toList.take (256 * 1))[i]? = _
    rw [Nat.mul_one, List.getElem?_take]
    by_cases hi : i < 256
    · rw [if_pos hi, Array.getElem?_toList, h2 i hi]
      simp [hi]
    · rw [if_neg hi, List.getElem?_eq_none (by rw [hl]; omega)]
  · have hj : j < 256 := by
      have := (List.getElem?_eq_some_iff.1 hp).1
      rw [ls_len] at this
      exact this
    rw [ls_get f j hj] at hp
    obtain rfl : f j = p := Option.some.inj hp
    show List.take 1 (List.drop (j * 1) _) = [Value.int .i64 (f j)]
    rw [Nat.mul_one]
    have hlt : j < ((List.range 256).map fun i => Value.int .i64 (f i)).length := by rw [hl]; exact hj
    rw [List.drop_eq_getElem_cons hlt]
    simp
theorem is_of_R {base : Nat} {v : Value} {xs : List Int} (h : Kd.R (Kd.int .i64) 3 w base (fun _ => True) v xs) (hl : xs.length = 256) (hx : ∀ i, i < 256 → xs[i]? = some (f i)) :
    ∃ g c, v = sl g c ∧ base ≤ g ∧ IS c w g f := by
  obtain ⟨inner, ho⟩ := Kd.R_own h
  have ho2 := ho
  obtain ⟨_, hor⟩ := ho
  rcases hor with ⟨_, h0⟩ | ⟨g, cap, cur, rfl, hb, hh, h1, h2, h3, _⟩
  · omega
  · have h3' : cur.size = cap := h3.trans (Nat.mul_one cap)
    rw [hl] at h h1
    refine ⟨g, cap, by rw [hl], hb, cur, hh, h3', h1, h2, fun i hi => ?_⟩
    have h4 := (Kd.R_celln (0 : Int) h (i : Int) (by omega) (by omega)).1
    rw [Int.toNat_natCast, cell_of_row w g i cur 3 (0, 0) hh] at h4
    rw [h4]
    have h5 := hx i hi
    simp [rdOf, List.getD_eq_getElem?_getD, h5]
end
theorem make_IS {ops : Array Oper} {rest : List Oper} {o : Oper} {a : Act} {Q : Exit → Act → World → Prop} {W : World} (hgd : o.guard = none) {N : Tmp} (hd : o.dst = some N) (ho : o.op = .makeSlice 22 (.const (.int .i64 256)) (.const (.int .i64 256)))
    (h : ∀ g c w1, IS c w1 g (fun _ => 0) → Below W.heap.size W w1 → W.heap.size ≤ g → wpList Try.prog ops Q rest (a.put o.dst (sl g c)) w1) : wpList Try.prog ops Q (o :: rest) a W := by
  refine Kd.R_make (Kd.int .i64) W.heap.size 3 hgd (N := N) hd 22 _ _ ho 256 rfl rfl Try.underlying22 (.int .i64 0) 8 info3 rfl (by decide) (by omega) 0 (ok := fun _ => True) (okp := fun _ => True) rfl (fun _ hk => hk) trivial (by omega) (by decide) (Below.refl _ _) (Nat.le_refl _) ?_
  intro v w1 hR hB _ _
  obtain ⟨g, c, rfl, hg, hI⟩ := is_of_R (f := fun _ => 0) hR (by rw [List.length_replicate]; rfl) (fun i hi => by rw [List.getElem?_replicate, if_pos (show i < Int.toNat 256 from hi)])
  exact h g c w1 hI hB hg
def EachS (w : World) (c1 : Nat) (h : F) (g1 : Nat) (v : Value) (w' : World) : Prop := ∃ i : Nat, i ≤ 256 ∧ v = .int .i64 i ∧ IS c1 w' g1 (flt i h) ∧ Below w.heap.size w w'
set_option maxHeartbeats 1000000 in
set_option maxRecDepth 20000 in
theorem each_addS (A B : Option Addr) (c d : Nat) (f g h : F) (w : World) (hA : RD w A f) (hB : RD w B g) (hc : 256 ≤ c) (hd : 256 ≤ d) (hf : PF f) (hg : PF g) (hh : addS f g = h) :
    Calls Try.prog 42 #[.slice A 256 c, .slice B 256 d, fnV 43] w fun e w' => ∃ g1 c1, e = .returned (sl g1 c1) ∧ w.heap.size ≤ g1 ∧ IS c1 w' g1 h ∧ Below w.heap.size w w' := by
  have MA := Lib.hid (may_any A c f w hA hc hf)
  have MB := Lib.hid (may_any B d g w hB hd hg)
  have HA := Lib.hid hA
  have HB := Lib.hid hB
  have PA := Lib.hid hf
  have PB := Lib.hid hg
  have HH := Lib.hid hh
  clear hA hB hf hg hh
  go_enter Try.func42, Try.ntmps42
  go_wp2_with (first
    | (go_at_call 36; (first | ((with_reducible refine MA.out.mono ?_); rintro e w9 ⟨rfl, hw⟩; rw [hw]; clear hw) | ((with_reducible refine MB.out.mono ?_); rintro e w9 ⟨rfl, hw⟩; rw [hw]; clear hw)))
    | ((with_reducible refine gate_dst (N := 17) rfl ?_); refine make_IS rfl rfl rfl ?_; intro g1 c1 w1 hI hB hg; have I1 := Lib.hid hI; have B1 := Lib.hid hB; have G1 := Lib.hid hg; clear hI hB hg))
  clear MA MB
  go_loopw [20] (fun v w' => EachS w c1 h g1 v w') (fun v _ => (256 - intOf v).toNat)
  case atStart => exact ⟨0, by omega, rfl, by rw [flt_zero]; exact I1.out, B1.out⟩
  case round =>
    clear I1 B1
    obtain ⟨i, hi, rfl, hI, hBl⟩ := hrel
    by_cases hlt : i < 256
    · have hpd : decide ((i : Int) < 256) = true := decide_eq_true (by omega)
      have hii : (i : Int) < 256 := by omega
      obtain ⟨ad, hA0, hcx⟩ : ∃ ad, A = some ad ∧ wr.cell? (ad.add i) = some (.int .i64 (f i)) := by obtain ⟨ad, e, hc⟩ := HA.out.below hBl; exact ⟨ad, e, hc i hlt⟩
      obtain ⟨bd, hB0, hcy⟩ : ∃ ad, B = some ad ∧ wr.cell? (ad.add i) = some (.int .i64 (g i)) := by obtain ⟨ad, e, hc⟩ := HB.out.below hBl; exact ⟨ad, e, hc i hlt⟩
      subst hA0 hB0
      have bx := PA.out i hlt
      have by0 := PB.out i hlt
      obtain ⟨x0, hx0⟩ : ∃ x, f i = x := ⟨_, rfl⟩
      obtain ⟨y0, hy0⟩ : ∃ x, g i = x := ⟨_, rfl⟩
      rw [hx0] at hcx bx
      rw [hy0] at hcy by0
      have W1 : IntKind.i64.wrap (x0 + y0) = x0 + y0 := IntWalk.i64_in _ (by omega)
      have K := Lib.hid (fun W => add1_any x0 y0 _ W W1)
      obtain ⟨r0, hr0⟩ : ∃ r, x0 + y0 = r := ⟨_, rfl⟩
      rw [hr0] at K
      have hm : Int.tmod r0 8380417 = h i := by rw [Int.tmod_eq_emod_of_nonneg (by omega), ← hr0, ← hx0, ← hy0, ← HH.out]; rfl
      have E := Lib.hid (show upd (flt i h) i (h i) = flt (i + 1) h from flt_succ i h)
      obtain ⟨z0, hz0⟩ : ∃ z, h i = z := ⟨_, rfl⟩
      rw [hz0] at hm E
      have hc := hI.cell i hlt
      have hfz := hI.frozen i
      have HI := Lib.hid hI
      have BL := Lib.hid hBl
      clear hI hBl hx0 hy0 hr0 hz0
      go_wp2_with fail
      refine wp_region_still_tail 14 (by kernel_rfl) (by kernel_rfl) ?_
      simp only [List.take_succ_cons, List.take_zero, List.drop_succ_cons, List.drop_zero]
      repeat still_step
      still_call (K.out _)
      repeat still_step
      refine wpStill_nil ?_
      change wpList _ _ _ _ _ wr.drew
      have HI : Hid (IS c1 wr.drew g1 (flt i h)) := Lib.hid HI.out
      have BL : Hid (Below w.heap.size w wr.drew) := Lib.hid BL.out.drew
      have hfz := HI.out.frozen i
      have hc := HI.out.cell i hlt
      generalize wr.drew = w5 at HI BL hfz hc ⊢
      clear hcx hcy
      go_wp2
      go_roundw
      case rel =>
        have hrel : EachS w c1 h g1 (.int .i64 ((i : Int) + 1)) (w5.setCell ⟨g1, i, none⟩ (.int .i64 z0)) := ⟨i + 1, by omega, by go_num, by rw [← E.out]; exact HI.out.set i z0, BL.out.setCell G1.out _⟩
        first
        | exact hrel
        | (repeat apply Exists.intro
           exact ⟨hrel, rfl⟩)
      case measure => simp [intOf]; omega
    · have e : i = 256 := by omega
      subst e
      have HI := Lib.hid (hI.ext (flt_all h))
      have BL := Lib.hid hBl
      clear hI hBl hi hlt
      go_wp2
      go_ret
      exact ⟨_, _, rfl, G1.out, HI.out, BL.out⟩
theorem addS_any (A B : Option Addr) (c d : Nat) (f g h : F) (w : World) (hA : RD w A f) (hB : RD w B g) (hc : 256 ≤ c) (hd : 256 ≤ d) (hf : PF f) (hg : PF g) (hh : addS f g = h) :
    Calls Try.prog 16 #[.slice A 256 c, .slice B 256 d] w fun e w' => ∃ g1 c1, e = .returned (sl g1 c1) ∧ w.heap.size ≤ g1 ∧ IS c1 w' g1 h ∧ Below w.heap.size w w' := by
  have K := Lib.hid (each_addS A B c d f g h w hA hB hc hd hf hg hh)
  clear hA hB hf hg hh
  go_enter Try.func16, Try.ntmps16
  go_wp2_with (go_at_call 42; (with_reducible refine K.out.mono ?_); rintro e w' ⟨g1, c1, rfl, hg1, hI, hB⟩; have HI := Lib.hid hI; have HB := Lib.hid hB; clear hI hB)
  go_ret
  exact ⟨g1, c1, rfl, hg1, HI.out, HB.out⟩
set_option maxHeartbeats 1000000 in
set_option maxRecDepth 20000 in
theorem cloneS_any (A : Option Addr) (c : Nat) (f : F) (w : World) (hA : RD w A f) (hc : 256 ≤ c) :
    Calls Try.prog 40 #[.slice A 256 c] w fun e w' => ∃ g1 c1, e = .returned (sl g1 c1) ∧ w.heap.size ≤ g1 ∧ IS c1 w' g1 f ∧ Below w.heap.size w w' := by
  obtain ⟨ad, rfl, hcell⟩ := hA
  have HA : Hid (RD w (some ad) f) := Lib.hid ⟨ad, rfl, hcell⟩
  clear hcell
  have hE := Lib.run_eql_slice_nil (P := Try.prog) w 22 3 (some ad) 256 c 0 0 Try.underlying22
  go_enter Try.func40, Try.ntmps40
  go_wp2_with (first
    | ((with_reducible refine gate_dst (N := 5) rfl ?_); refine Kd.R_lit (Kd.int .i64) w.heap.size 3 rfl (N := 5) rfl (w0 := w) (xs := []) (inner := []) (okp := fun _ => False) (ok := fun _ => True) ?aR ?aP (fun _ h => h.elim) trivial (Below.refl _ _) (Nat.le_refl _) (by decide) ?_; (case aR => first | (go_simp; done) | (go_simp; rfl)); (case aP => exact Reps.none _ _); intro v1 w1 ho hb hg _; have HR1 := Lib.hid ho; have HB1 := Lib.hid hb; have HC1 := Lib.hid (show Kd.C (Kd.int .i64) w1 (some ad) 256 (ls f) by have h := (HA.out.below hb).C; rw [ls_len] at h; exact h); clear ho hb hg)
    | (at_builtin; refine Kd.R_append_rows (Kd.int .i64) (Rr := fun x cs => cs = [Value.int .i64 x]) (w0 := w) w.heap.size rfl (.tmp 5) (.tmp 6) 22 3 (.int .i64 0) 8 rfl Try.underlying22 info3 rfl (by decide) (by omega) v1 [] (ls f) (some ad) 256 c (fun _ => True) (fun _ => False) rfl rfl ?aO ?aR (fun _ _ h => h) (fun _ hk => hk.elim) (fun _ _ => trivial) ?aB ?aS ?aL ?_; (case aB => exact HB1.out); (case aO => exact HR1.out); (case aR => exact HC1.out); (case aS => exact HB1.out.size); (case aL => simp only [List.length_nil]; omega); intro v2 w2 ho hb hg hat; rw [List.nil_append] at ho; obtain ⟨g2, c2, rfl, hg2, hI2⟩ := is_of_R (f := f) ho (ls_len f) (fun i hi => ls_get f i hi); have I2 := Lib.hid hI2; have B2 := Lib.hid hb; clear ho hb hg hat hI2))
  go_ret
  exact ⟨g2, c2, rfl, hg2, I2.out, B2.out⟩
def SO0 (w : World) (cf gf gz : Nat) (f : F) (w' : World) : Prop := IS cf w' gf f ∧ IR w' gz zS ∧ Below w.heap.size w w'
def SO1 (w : World) (cf gf gz : Nat) (f : F) (m n : Value) (w' : World) : Prop := ∃ s : Nat, s ≤ 8 ∧ m = .int .i64 ((2 ^ s : Nat) - 1 : Int) ∧ n = .int .i64 ((128 / 2 ^ s : Nat) : Int) ∧ SO0 w cf gf gz (overL f s) w'
def SO2 (w : World) (cf gf gz n nb : Nat) (new old : F) (m st : Value) (w' : World) : Prop := ∃ b t : Nat, b ≤ nb ∧ t = 2 * n * b ∧ m = .int .i64 (((nb + b : Nat) : Int) - 1) ∧ st = .int .i64 (t : Int) ∧ SO0 w cf gf gz (pst n t t new old) w'
def SO3 (w : World) (cf gf gz n t : Nat) (new old : F) (jv : Value) (w' : World) : Prop := ∃ j : Nat, t ≤ j ∧ j ≤ t + n ∧ jv = .int .i64 (j : Int) ∧ SO0 w cf gf gz (pst n t j new old) w'
def SP1 (w : World) (cf gf gz : Nat) (f : F) (m n : Value) (w' : World) : Prop := ∃ s : Nat, s ≤ 8 ∧ m = .int .i64 ((256 / 2 ^ s : Nat) : Int) ∧ n = .int .i64 ((2 ^ s : Nat) : Int) ∧ SO0 w cf gf gz (backL f s) w'
def SP2 (w : World) (cf gf gz n nb : Nat) (new old : F) (m st : Value) (w' : World) : Prop := ∃ b t M : Nat, b ≤ nb ∧ t = 2 * n * b ∧ M + b = nb + nb ∧ m = .int .i64 (M : Int) ∧ st = .int .i64 (t : Int) ∧ SO0 w cf gf gz (pst n t t new old) w'
def SP4 (w : World) (cf gf : Nat) (f : F) (v : Value) (w' : World) : Prop := ∃ i : Nat, i ≤ 256 ∧ v = .int .i64 (i : Int) ∧ IS cf w' gf (scP i f) ∧ Below w.heap.size w w'
set_option maxHeartbeats 4000000 in
set_option maxRecDepth 20000 in
theorem overS_any (A : Option Addr) (c : Nat) (f r : F) (w : World) (hA : RD w A f) (hc : 256 ≤ c) (hf : PF f) (hr : overS f = r) :
    Calls Try.prog 13 #[.slice A 256 c] w fun e w' => ∃ g1 c1, e = .returned (sl g1 c1) ∧ w.heap.size ≤ g1 ∧ IS c1 w' g1 r ∧ Below w.heap.size w w' := by
  have MA := Lib.hid (may_any A c f w hA hc hf)
  have CL := Lib.hid (cloneS_any A c f w hA hc)
  have PFf := Lib.hid hf
  have HR := Lib.hid hr
  clear hA hf hr
  go_enter Try.func13, Try.ntmps13
  go_wp2_with (first
    | (go_at_call 36; (with_reducible refine MA.out.mono ?_); rintro e w9 ⟨rfl, hw⟩; rw [hw]; clear hw)
    | (go_at_call 40; (with_reducible refine CL.out.mono ?_); rintro e w1 ⟨gf, cf, rfl, hgf, hI, hB⟩; have If := Lib.hid hI; have B1 := Lib.hid hB; have Gf := Lib.hid hgf; clear hI hB hgf)
    | (go_at_call 41; (with_reducible refine (roots_any _).mono ?_); rintro e w2 ⟨gz, cz, rfl, hcz, hgz, hI, hB⟩; have D := Lib.hid (show gf < gz from Nat.lt_of_lt_of_le If.out.lt hgz); have If := Lib.hid (If.out.below hB); have Iz := Lib.hid hI; have B2 := Lib.hid (below_step B1.out hB); clear hI hB hgz hcz))
  clear MA CL B1
  go_loopw [4, 5] (fun m n w' => SO1 w cf gf gz f m n w') (fun _ n _ => (intOf n).toNat)
  case atStart => exact ⟨0, by omega, rfl, rfl, If.out, Iz.out, B2.out⟩
  case round =>
    clear If Iz B2
    obtain ⟨s, hs, rfl, rfl, hO⟩ := hrel
    by_cases hlt : s < 8
    · obtain ⟨z1, z2, z3, z4, z5, z6, z7⟩ := sizes s hlt
      have hold := overL_PF f PFf.out s
      have hnext : overL f (s + 1) = lay (128 / 2 ^ s) (2 ^ s) zS (overL f s) := rfl
      obtain ⟨n, hn⟩ : ∃ n, 128 / 2 ^ s = n := ⟨_, rfl⟩
      obtain ⟨nb, hnb⟩ : ∃ n, 2 ^ s = n := ⟨_, rfl⟩
      obtain ⟨old, ho⟩ : ∃ o, overL f s = o := ⟨_, rfl⟩
      rw [hn, hnb, ho] at hnext
      rw [hn, hnb] at z1
      rw [hn] at z2 z3 z4
      rw [hnb] at z5 z6 z7
      rw [ho] at hO hold
      rw [hn, hnb]
      obtain ⟨new, hw⟩ : ∃ o, lay n nb zS old = o := ⟨_, rfl⟩
      rw [hw] at hnext
      have NX := Lib.hid hnext
      have NW := Lib.hid hw
      have POLD := Lib.hid hold
      have hq : Int.tdiv (n : Int) 2 = ((128 / 2 ^ (s + 1) : Nat) : Int) := by rw [← z4, Int.tdiv_eq_ediv_of_nonneg (by omega)]; omega
      obtain ⟨n2, hn2⟩ : ∃ k, 128 / 2 ^ (s + 1) = k := ⟨_, rfl⟩
      rw [hn2] at hq
      have HN2 := Lib.hid hn2
      have Z7 := Lib.hid z7
      have hpd : decide ((n : Int) ≥ 1) = true := decide_eq_true (by omega)
      have hpd2 : decide (1 ≤ (n : Int)) = true := decide_eq_true (by omega)
      have HO := Lib.hid hO
      have hn21 : n2 < n := by omega
      clear hO hn hnb ho hold hnext hw hn2 z4 z7
      go_wp2
      go_loopw [4, 6] (fun m st w' => SO2 w cf gf gz n nb new old m st w') (fun _ st _ => (256 - intOf st).toNat)
      case atStart => exact ⟨0, 0, by omega, by omega, by simp, rfl, by rw [← pst_start]; exact HO.out⟩
      case round =>
        clear HO
        obtain ⟨b, t, hb, ht, rfl, rfl, hO⟩ := hrel
        by_cases hbl : b < nb
        · have htb : t + 2 * n ≤ 256 := by
            have h1 : 2 * n * (b + 1) ≤ 2 * n * nb := Nat.mul_le_mul_left _ (by omega)
            rw [z1, Nat.mul_add, Nat.mul_one, ← ht] at h1
            exact h1
          have htn : t + 2 * n = 2 * n * (b + 1) := by rw [Nat.mul_add, Nat.mul_one, ← ht]
          have HT := Lib.hid ht
          have HTN := Lib.hid htn
          have hpd3 : decide ((t : Int) < 256) = true := decide_eq_true (by omega)
          have WM : IntKind.i64.wrap (((nb + b : Nat) : Int) - 1 + 1) = ((nb + b : Nat) : Int) := by rw [IntWalk.i64_in _ (by omega)]; omega
          obtain ⟨m, hm⟩ : ∃ m, nb + b = m := ⟨_, rfl⟩
          have hmb : m < 256 := by omega
          have hmi : (m : Int) < 256 := by omega
          rw [hm] at WM
          rw [hm]
          have HM := Lib.hid hm
          have HO := Lib.hid hO
          clear hO ht htn hm
          go_wp2
          go_loopw [7] (fun jv w' => SO3 w cf gf gz n t new old jv w') (fun jv _ => (t + n - intOf jv).toNat)
          case atStart => exact ⟨t, by omega, by omega, rfl, HO.out⟩
          case round =>
            clear HO
            obtain ⟨j, hj1, hj2, rfl, hIf, hIz, hBl⟩ := hrel
            have WT : IntKind.i64.wrap ((t : Int) + (n : Int)) = ((t + n : Nat) : Int) := by rw [IntWalk.i64_in _ (by omega)]; omega
            by_cases hjl : j < t + n
            · have hpd4 : decide ((j : Int) < ((t + n : Nat) : Int)) = true := decide_eq_true (by omega)
              have hji : (j : Int) < 256 := by omega
              have hjl256 : j < 256 := by omega
              have hjn256 : j + n < 256 := by omega
              have b0 := POLD.out j hjl256
              have b1 := POLD.out (j + n) hjn256
              have bz := rs_PF 256 m hmb
              have hlo := lay_lo n nb zS old b j (by have := HT.out; omega) (by have := HT.out; omega)
              have hhi := lay_hi n nb zS old b j (by have := HT.out; omega) (by have := HT.out; omega)
              rw [NW.out, HM.out] at hlo hhi
              have hpl := pst_lo new old hj1 hjl
              have hph := pst_hi new old hj1 hjl
              have hst := pst_step new old hj1 hjl
              have hcj := hIf.cell j hjl256
              have hcjn := hIf.cell (j + n) hjn256
              have hcz := hIz.cell m hmb
              rw [hpl] at hcj
              rw [hph] at hcjn
              obtain ⟨jn, hjn⟩ : ∃ k, j + n = k := ⟨_, rfl⟩
              obtain ⟨x0, hx0⟩ : ∃ x, old j = x := ⟨_, rfl⟩
              rw [hx0] at b0 hcj hlo hhi
              rw [hjn] at hcjn hst hph hhi hlo b1 hjn256
              obtain ⟨y0, hy0⟩ : ∃ x, old jn = x := ⟨_, rfl⟩
              obtain ⟨z0, hz0⟩ : ∃ x, zS m = x := ⟨_, rfl⟩
              rw [hy0] at b1 hcjn hlo hhi
              rw [hz0] at hcz hlo hhi
              rw [show rs 256 m = z0 from hz0] at bz
              have mb := mul_bd bz.1 bz.2 b1.1 (show y0 ≤ 20000000 by omega)
              have hjni : (jn : Int) < 256 := by omega
              have hne : j ≠ jn := by omega
              have WJ : IntKind.i64.wrap ((j : Int) + (n : Int)) = (jn : Int) := by rw [IntWalk.i64_in _ (by omega)]; omega
              have WP0 : IntKind.i64.wrap (z0 * y0) = z0 * y0 := IntWalk.i64_in _ (by omega)
              obtain ⟨p0, hp0⟩ : ∃ p, z0 * y0 = p := ⟨_, rfl⟩
              have WP : IntKind.i64.wrap (z0 * y0) = p0 := WP0.trans hp0
              rw [hp0] at mb hlo hhi
              have tb := mod_bd p0
              have TP : Int.tmod p0 8380417 = p0 % 8380417 := Int.tmod_eq_emod_of_nonneg (by omega)
              obtain ⟨t0, ht0⟩ : ∃ p, p0 % 8380417 = p := ⟨_, rfl⟩
              rw [ht0] at TP tb hlo hhi
              have W10 : IntKind.i64.wrap (x0 + 8380417) = x0 + 8380417 := IntWalk.i64_in _ (by omega)
              obtain ⟨u1, hu1⟩ : ∃ p, x0 + 8380417 = p := ⟨_, rfl⟩
              have W1 : IntKind.i64.wrap (x0 + 8380417) = u1 := W10.trans hu1
              rw [hu1] at hhi
              have W20 : IntKind.i64.wrap (u1 - t0) = u1 - t0 := IntWalk.i64_in _ (by omega)
              have T2 : Int.tmod (u1 - t0) 8380417 = new jn := by rw [Int.tmod_eq_emod_of_nonneg (by omega), ← hhi]
              obtain ⟨u2, hu2⟩ : ∃ p, u1 - t0 = p := ⟨_, rfl⟩
              have W2 : IntKind.i64.wrap (u1 - t0) = u2 := W20.trans hu2
              rw [hu2] at T2
              have W30 : IntKind.i64.wrap (x0 + t0) = x0 + t0 := IntWalk.i64_in _ (by omega)
              have T3 : Int.tmod (x0 + t0) 8380417 = new j := by rw [Int.tmod_eq_emod_of_nonneg (by omega), ← hlo]
              obtain ⟨u3, hu3⟩ : ∃ p, x0 + t0 = p := ⟨_, rfl⟩
              have W3 : IntKind.i64.wrap (x0 + t0) = u3 := W30.trans hu3
              rw [hu3] at T3
              obtain ⟨v1, hv1⟩ : ∃ p, new jn = p := ⟨_, rfl⟩
              obtain ⟨v0, hv0⟩ : ∃ p, new j = p := ⟨_, rfl⟩
              rw [hv1] at T2 hst
              rw [hv0] at T3 hst
              have ST := Lib.hid hst
              have HIf := Lib.hid hIf
              have HIz := Lib.hid hIz
              have HBl := Lib.hid hBl
              clear WP0 W10 W20 W30 hIf hIz hBl hlo hhi hpl hph hst hx0 hy0 hz0 hp0 ht0 hu1 hu2 hu3 hv0 hv1 b0 b1 bz mb tb hjn
              go_wp2_with fail
              refine wp_region_still_tail 12 (by kernel_rfl) (by kernel_rfl) ?_
              simp only [List.take_succ_cons, List.take_zero, List.drop_succ_cons, List.drop_zero]
              repeat still_step
              refine wpStill_nil ?_
              change wpList _ _ _ _ _ wr.drew
              have HIf : Hid (IS cf wr.drew gf (pst n t j new old)) := Lib.hid HIf.out
              have HIz : Hid (IR wr.drew gz zS) := Lib.hid HIz.out
              have HBl := Lib.hid HBl.out.drew
              have hcj : wr.drew.cell? ⟨gf, j, none⟩ = some (.int .i64 x0) := hcj
              have hcjn : wr.drew.cell? ⟨gf, jn, none⟩ = some (.int .i64 y0) := hcjn
              have hfj := HIf.out.frozen j
              have hfjn := HIf.out.frozen jn
              generalize wr.drew = w5 at HIf HIz HBl hcj hcjn hfj hfjn ⊢
              have I2 := Lib.hid (HIf.out.set jn v1)
              have hcj2 : (w5.setCell ⟨gf, jn, none⟩ (.int .i64 v1)).cell? ⟨gf, j, none⟩ = some (.int .i64 x0) := by
                have h1 := I2.out.cell j hjl256
                rw [h1]
                unfold upd
                rw [if_neg hne]
                have h2 := HIf.out.cell j hjl256
                rw [hcj] at h2
                exact h2.symm
              have hfj2 := I2.out.frozen j
              clear hcz
              go_wp2
              go_roundw
              case rel =>
                have hrel : SO3 w cf gf gz n t new old (.int .i64 ((j : Int) + 1)) ((w5.setCell ⟨gf, jn, none⟩ (.int .i64 v1)).setCell ⟨gf, j, none⟩ (.int .i64 v0)) := ⟨j + 1, by omega, by omega, by go_num, by rw [← ST.out]; exact I2.out.set j v0, (HIz.out.other (by have := D.out; omega) _ _).other (by have := D.out; omega) _ _, (HBl.out.setCell Gf.out _).setCell Gf.out _⟩
                first
                | exact hrel
                | (repeat apply Exists.intro
                   exact ⟨hrel, rfl⟩)
              case measure => simp [intOf]; omega
            · have e : j = t + n := by omega
              subst e
              rw [pst_next] at hIf
              have HIf := Lib.hid hIf
              have HIz := Lib.hid hIz
              have HBl := Lib.hid hBl
              have W2n : IntKind.i64.wrap (2 * (n : Int)) = 2 * (n : Int) := IntWalk.i64_in _ (by omega)
              have WS : IntKind.i64.wrap ((t : Int) + 2 * (n : Int)) = ((t + 2 * n : Nat) : Int) := by rw [IntWalk.i64_in _ (by omega)]; omega
              clear hIf hIz hBl hj1 hj2 hjl
              go_wp2
              go_roundw
              case rel =>
                have hrel : SO2 w cf gf gz n nb new old (.int .i64 (m : Int)) (.int .i64 ((t + 2 * n : Nat) : Int)) wr := ⟨b + 1, t + 2 * n, by omega, HTN.out, by have := HM.out; congr 1; omega, rfl, HIf.out, HIz.out, HBl.out⟩
                first
                | exact hrel
                | (repeat apply Exists.intro
                   exact ⟨hrel, rfl⟩)
              case measure => simp [intOf]; omega
        · have e : b = nb := by omega
          subst e
          rw [z1] at ht
          subst ht
          have HO := Lib.hid hO
          clear hO hb hbl
          go_wp2
          go_roundw
          case rel =>
            have hrel : SO1 w cf gf gz f (.int .i64 (((b + b : Nat) : Int) - 1)) (.int .i64 (n2 : Int)) wr := ⟨s + 1, by omega, by rw [Z7.out], by rw [HN2.out], HO.out.1.ext (fun k hk => by rw [NX.out, pst_all n new old k hk]), HO.out.2.1, HO.out.2.2⟩
            first
            | exact hrel
            | (repeat apply Exists.intro
               exact ⟨hrel, rfl⟩)
          case measure => simp [intOf]; omega
    · have e : s = 8 := by omega
      subst e
      have h0 : ((128 / 2 ^ 8 : Nat) : Int) = 0 := by decide
      rw [h0]
      have HO := Lib.hid hO
      clear hO hs hlt h0
      go_wp2
      go_ret
      exact ⟨gf, cf, rfl, Gf.out, by rw [← HR.out]; exact HO.out.1, HO.out.2.2⟩
set_option maxHeartbeats 4000000 in
set_option maxRecDepth 20000 in
theorem backS_any (A : Option Addr) (c : Nat) (f r : F) (w : World) (hA : RD w A f) (hc : 256 ≤ c) (hf : PF f) (hr : backS f = r) :
    Calls Try.prog 15 #[.slice A 256 c] w fun e w' => ∃ g1 c1, e = .returned (sl g1 c1) ∧ w.heap.size ≤ g1 ∧ IS c1 w' g1 r ∧ Below w.heap.size w w' := by
  have MA := Lib.hid (may_any A c f w hA hc hf)
  have CL := Lib.hid (cloneS_any A c f w hA hc)
  have PFf := Lib.hid hf
  have HR := Lib.hid hr
  clear hA hf hr
  go_enter Try.func15, Try.ntmps15
  go_wp2_with (first
    | (go_at_call 36; (with_reducible refine MA.out.mono ?_); rintro e w9 ⟨rfl, hw⟩; rw [hw]; clear hw)
    | (go_at_call 40; (with_reducible refine CL.out.mono ?_); rintro e w1 ⟨gf, cf, rfl, hgf, hI, hB⟩; have If := Lib.hid hI; have B1 := Lib.hid hB; have Gf := Lib.hid hgf; clear hI hB hgf)
    | (go_at_call 41; (with_reducible refine (roots_any _).mono ?_); rintro e w2 ⟨gz, cz, rfl, hcz, hgz, hI, hB⟩; have D := Lib.hid (show gf < gz from Nat.lt_of_lt_of_le If.out.lt hgz); have If := Lib.hid (If.out.below hB); have Iz := Lib.hid hI; have B2 := Lib.hid (below_step B1.out hB); clear hI hB hgz hcz))
  clear MA CL B1
  go_loopw [4, 5] (fun m n w' => SP1 w cf gf gz f m n w') (fun _ n _ => (256 - intOf n).toNat)
  case atStart => exact ⟨0, by omega, rfl, rfl, If.out, Iz.out, B2.out⟩
  case round =>
    clear If Iz B2
    obtain ⟨s, hs, rfl, rfl, hO⟩ := hrel
    by_cases hlt : s < 8
    · obtain ⟨z1, z2, z3, z4, z5, z6, z7, z8⟩ := sizes2 s hlt
      have hold := backL_PF f PFf.out s
      have hnext : backL f (s + 1) = bay (2 ^ s) (128 / 2 ^ s) zS (backL f s) := rfl
      rw [z7]
      obtain ⟨n, hn⟩ : ∃ n, 2 ^ s = n := ⟨_, rfl⟩
      obtain ⟨nb, hnb⟩ : ∃ k, 128 / 2 ^ s = k := ⟨_, rfl⟩
      obtain ⟨old, ho⟩ : ∃ o, backL f s = o := ⟨_, rfl⟩
      rw [hnb, ho, hn] at hnext
      rw [hnb, hn] at z1
      rw [hn] at z2 z3 z4
      rw [hnb] at z5 z6 z8
      rw [ho] at hO hold
      rw [hnb, hn]
      obtain ⟨new, hw⟩ : ∃ o, bay n nb zS old = o := ⟨_, rfl⟩
      rw [hw] at hnext
      have NX := Lib.hid hnext
      have NW := Lib.hid hw
      have POLD := Lib.hid hold
      obtain ⟨n2, hn2⟩ : ∃ k, 2 ^ (s + 1) = k := ⟨_, rfl⟩
      rw [hn2] at z4
      have hq : IntKind.i64.wrap ((n : Int) * 2) = (n2 : Int) := by rw [IntWalk.i64_in _ (by omega)]; omega
      have HN2 := Lib.hid hn2
      have Z8 := Lib.hid z8
      have hpd : decide ((n : Int) ≤ 128) = true := decide_eq_true (by omega)
      have HO := Lib.hid hO
      have hn21 : n < n2 := by omega
      clear hO hn hnb ho hold hnext hw hn2 z4 z7 z8
      go_wp2
      go_loopw [4, 6] (fun m st w' => SP2 w cf gf gz n nb new old m st w') (fun _ st _ => (256 - intOf st).toNat)
      case atStart => exact ⟨0, 0, nb + nb, by omega, by omega, by omega, rfl, rfl, by rw [← pst_start]; exact HO.out⟩
      case round =>
        clear HO
        obtain ⟨b, t, M, hb, ht, hMb, rfl, rfl, hO⟩ := hrel
        by_cases hbl : b < nb
        · have htb : t + 2 * n ≤ 256 := by
            have h1 : 2 * n * (b + 1) ≤ 2 * n * nb := Nat.mul_le_mul_left _ (by omega)
            rw [z1, Nat.mul_add, Nat.mul_one, ← ht] at h1
            exact h1
          have htn : t + 2 * n = 2 * n * (b + 1) := by rw [Nat.mul_add, Nat.mul_one, ← ht]
          have HT := Lib.hid ht
          have HTN := Lib.hid htn
          have hpd3 : decide ((t : Int) < 256) = true := decide_eq_true (by omega)
          have hbnb : b < nb := hbl
          obtain ⟨m, hm⟩ : ∃ m, 2 * nb - 1 - b = m := ⟨_, rfl⟩
          have WM : IntKind.i64.wrap ((M : Int) - 1) = (m : Int) := by rw [IntWalk.i64_in _ (by omega)]; omega
          have hmb : m < 256 := by omega
          have hmi : (m : Int) < 256 := by omega
          have HMB : Hid (m + (b + 1) = nb + nb) := Lib.hid (by omega)
          have HM := Lib.hid hm
          have HO := Lib.hid hO
          clear hO ht htn hm
          go_wp2
          go_loopw [7] (fun jv w' => SO3 w cf gf gz n t new old jv w') (fun jv _ => (t + n - intOf jv).toNat)
          case atStart => exact ⟨t, by omega, by omega, rfl, HO.out⟩
          case round =>
            clear HO
            obtain ⟨j, hj1, hj2, rfl, hIf, hIz, hBl⟩ := hrel
            have WT : IntKind.i64.wrap ((t : Int) + (n : Int)) = ((t + n : Nat) : Int) := by rw [IntWalk.i64_in _ (by omega)]; omega
            by_cases hjl : j < t + n
            · have hpd4 : decide ((j : Int) < ((t + n : Nat) : Int)) = true := decide_eq_true (by omega)
              have hji : (j : Int) < 256 := by omega
              have hjl256 : j < 256 := by omega
              have hjn256 : j + n < 256 := by omega
              have b0 := POLD.out j hjl256
              have b1 := POLD.out (j + n) hjn256
              have bz := rs_PF 256 m hmb
              have hlo := bay_lo n nb zS old b j (by have := HT.out; omega) (by have := HT.out; omega)
              have hhi := bay_hi n nb zS old b j (by have := HT.out; omega) (by have := HT.out; omega)
              rw [NW.out] at hlo hhi
              rw [HM.out] at hhi
              have hpl := pst_lo new old hj1 hjl
              have hph := pst_hi new old hj1 hjl
              have hst := pst_step2 new old hj1 hjl
              have hcj := hIf.cell j hjl256
              have hcjn := hIf.cell (j + n) hjn256
              have hcz := hIz.cell m hmb
              rw [hpl] at hcj
              rw [hph] at hcjn
              obtain ⟨jn, hjn⟩ : ∃ k, j + n = k := ⟨_, rfl⟩
              obtain ⟨x0, hx0⟩ : ∃ x, old j = x := ⟨_, rfl⟩
              rw [hx0] at b0 hcj hlo hhi
              rw [hjn] at hcjn hst hph hhi hlo b1 hjn256
              obtain ⟨y0, hy0⟩ : ∃ x, old jn = x := ⟨_, rfl⟩
              obtain ⟨z0, hz0⟩ : ∃ x, zS m = x := ⟨_, rfl⟩
              rw [hy0] at b1 hcjn hlo hhi
              rw [hz0] at hcz hhi
              rw [show rs 256 m = z0 from hz0] at bz
              have hjni : (jn : Int) < 256 := by omega
              have hne : jn ≠ j := by omega
              have WJ : IntKind.i64.wrap ((j : Int) + (n : Int)) = (jn : Int) := by rw [IntWalk.i64_in _ (by omega)]; omega
              have WA0 : IntKind.i64.wrap (x0 + y0) = x0 + y0 := IntWalk.i64_in _ (by omega)
              have TA : Int.tmod (x0 + y0) 8380417 = new j := by rw [Int.tmod_eq_emod_of_nonneg (by omega), ← hlo]
              obtain ⟨s0, hs0⟩ : ∃ p, x0 + y0 = p := ⟨_, rfl⟩
              have WA : IntKind.i64.wrap (x0 + y0) = s0 := WA0.trans hs0
              rw [hs0] at TA
              have WB0 : IntKind.i64.wrap (y0 + 8380417) = y0 + 8380417 := IntWalk.i64_in _ (by omega)
              obtain ⟨u1, hu1⟩ : ∃ p, y0 + 8380417 = p := ⟨_, rfl⟩
              have WB : IntKind.i64.wrap (y0 + 8380417) = u1 := WB0.trans hu1
              rw [hu1] at hhi
              have WC0 : IntKind.i64.wrap (u1 - x0) = u1 - x0 := IntWalk.i64_in _ (by omega)
              have mb := mul_bd bz.1 bz.2 (show 0 ≤ u1 - x0 by omega) (show u1 - x0 ≤ 20000000 by omega)
              obtain ⟨u2, hu2⟩ : ∃ p, u1 - x0 = p := ⟨_, rfl⟩
              have WC : IntKind.i64.wrap (u1 - x0) = u2 := WC0.trans hu2
              rw [hu2] at mb hhi
              have WP0 : IntKind.i64.wrap (z0 * u2) = z0 * u2 := IntWalk.i64_in _ (by omega)
              have TP : Int.tmod (z0 * u2) 8380417 = new jn := by rw [Int.tmod_eq_emod_of_nonneg (by omega), ← hhi]
              obtain ⟨p0, hp0⟩ : ∃ p, z0 * u2 = p := ⟨_, rfl⟩
              have WP : IntKind.i64.wrap (z0 * u2) = p0 := WP0.trans hp0
              rw [hp0] at TP
              obtain ⟨v1, hv1⟩ : ∃ p, new jn = p := ⟨_, rfl⟩
              obtain ⟨v0, hv0⟩ : ∃ p, new j = p := ⟨_, rfl⟩
              rw [hv1] at TP hst
              rw [hv0] at TA hst
              have ST := Lib.hid hst
              have HIf := Lib.hid hIf
              have HIz := Lib.hid hIz
              have HBl := Lib.hid hBl
              clear WP0 WA0 WB0 WC0 hIf hIz hBl hlo hhi hpl hph hst hx0 hy0 hz0 hp0 hs0 hu1 hu2 hv0 hv1 b0 b1 bz mb hjn
              have hfj := HIf.out.frozen j
              have I2 := Lib.hid (HIf.out.set j v0)
              have Iz2 := Lib.hid (HIz.out.other (by have := D.out; omega : gz ≠ gf) j (.int .i64 v0))
              have B2' := Lib.hid (show Below w.heap.size w (wr.setCell ⟨gf, j, none⟩ (.int .i64 v0)) from HBl.out.setCell Gf.out _)
              have hcjn2 : (wr.setCell ⟨gf, j, none⟩ (.int .i64 v0)).cell? ⟨gf, jn, none⟩ = some (.int .i64 y0) := by
                have h1 := I2.out.cell jn hjn256
                rw [h1]
                unfold upd
                rw [if_neg hne]
                have h2 := HIf.out.cell jn hjn256
                rw [hcjn] at h2
                exact h2.symm
              have hcz2 : (wr.setCell ⟨gf, j, none⟩ (.int .i64 v0)).cell? ⟨gz, m, none⟩ = some (.int .i64 z0) := by
                have h1 := Iz2.out.cell m hmb
                rw [h1]
                have h2 := HIz.out.cell m hmb
                rw [hcz] at h2
                exact h2.symm
              go_wp2_with fail
              clear hcj hcjn hcz hfj
              generalize wr.setCell ⟨gf, j, none⟩ (.int .i64 v0) = w4 at I2 Iz2 B2' hcjn2 hcz2 ⊢
              refine wp_region_still_tail 20 (by kernel_rfl) (by kernel_rfl) ?_
              simp only [List.take_succ_cons, List.take_zero, List.drop_succ_cons, List.drop_zero]
              repeat still_step
              refine wpStill_nil ?_
              change wpList _ _ _ _ _ w4.drew
              have I2 : Hid (IS cf w4.drew gf (upd (pst n t j new old) j v0)) := Lib.hid I2.out
              have Iz2 : Hid (IR w4.drew gz zS) := Lib.hid Iz2.out
              have B2' := Lib.hid B2'.out.drew
              have hfjn := I2.out.frozen jn
              have hcx := I2.out.cell jn hjn256
              generalize w4.drew = w5 at I2 Iz2 B2' hfjn hcx ⊢
              clear hcjn2 hcz2
              go_wp2
              go_roundw
              case rel =>
                have hrel : SO3 w cf gf gz n t new old (.int .i64 ((j : Int) + 1)) (w5.setCell ⟨gf, jn, none⟩ (.int .i64 v1)) := ⟨j + 1, by omega, by omega, by go_num, by rw [← ST.out]; exact I2.out.set jn v1, Iz2.out.other (by have := D.out; omega) _ _, B2'.out.setCell Gf.out _⟩
                first
                | exact hrel
                | (repeat apply Exists.intro
                   exact ⟨hrel, rfl⟩)
              case measure => simp [intOf]; omega
            · have e : j = t + n := by omega
              subst e
              rw [pst_next] at hIf
              have HIf := Lib.hid hIf
              have HIz := Lib.hid hIz
              have HBl := Lib.hid hBl
              have W2n : IntKind.i64.wrap (2 * (n : Int)) = 2 * (n : Int) := IntWalk.i64_in _ (by omega)
              have WS : IntKind.i64.wrap ((t : Int) + 2 * (n : Int)) = ((t + 2 * n : Nat) : Int) := by rw [IntWalk.i64_in _ (by omega)]; omega
              clear hIf hIz hBl hj1 hj2 hjl
              go_wp2
              go_roundw
              case rel =>
                have hrel : SP2 w cf gf gz n nb new old (.int .i64 (m : Int)) (.int .i64 ((t + 2 * n : Nat) : Int)) wr := ⟨b + 1, t + 2 * n, m, by omega, HTN.out, HMB.out, rfl, rfl, HIf.out, HIz.out, HBl.out⟩
                first
                | exact hrel
                | (repeat apply Exists.intro
                   exact ⟨hrel, rfl⟩)
              case measure => simp [intOf]; omega
        · have e : b = nb := by omega
          subst e
          rw [z1] at ht
          subst ht
          have HO := Lib.hid hO
          clear hO hb hbl
          go_wp2
          go_roundw
          case rel =>
            have hrel : SP1 w cf gf gz f (.int .i64 (M : Int)) (.int .i64 (n2 : Int)) wr := ⟨s + 1, by omega, by rw [Z8.out, show M = b by omega], by rw [HN2.out], HO.out.1.ext (fun k hk => by rw [NX.out, pst_all n new old k hk]), HO.out.2.1, HO.out.2.2⟩
            first
            | exact hrel
            | (repeat apply Exists.intro
               exact ⟨hrel, rfl⟩)
          case measure => simp [intOf]; omega
    · have e : s = 8 := by omega
      subst e
      have h0 : ((2 ^ 8 : Nat) : Int) = 256 := by decide
      have h1 : ((256 / 2 ^ 8 : Nat) : Int) = 1 := by decide
      rw [h0, h1]
      have hp8 := backL_PF f PFf.out 8
      have hbs : backS f = scS (backL f 8) := rfl
      obtain ⟨p, hp⟩ : ∃ p, backL f 8 = p := ⟨_, rfl⟩
      rw [hp] at hO hp8 hbs
      have PP := Lib.hid hp8
      have BS := Lib.hid (hbs.symm.trans HR.out)
      have IP := Lib.hid hO.1
      have BP := Lib.hid hO.2.2
      clear hO hs hlt h0 h1 hp8 hbs hp
      go_wp2
      go_loopw [74] (fun v w' => SP4 w cf gf p v w') (fun v _ => (256 - intOf v).toNat)
      case atStart => exact ⟨0, by omega, rfl, by have e : scP 0 p = p := (by funext k; simp [scP]); rw [e]; exact IP.out, BP.out⟩
      case round =>
        clear IP BP
        obtain ⟨i, hi, rfl, hI, hB⟩ := hrel
        by_cases hlt : i < 256
        · have hpd : decide ((i : Int) < 256) = true := decide_eq_true (by omega)
          have hii : (i : Int) < 256 := by omega
          have b0 := PP.out i hlt
          have hst := scP_step i p
          have hci := hI.cell i hlt
          have hv : scP i p i = p i := by unfold scP; rw [if_neg (by omega)]
          rw [hv] at hci
          have hsc : scS p i = p i * 8347681 % 8380417 := rfl
          obtain ⟨x0, hx0⟩ : ∃ x, p i = x := ⟨_, rfl⟩
          rw [hx0] at hci b0 hsc
          have WP0 : IntKind.i64.wrap (x0 * 8347681) = x0 * 8347681 := IntWalk.i64_in _ (by omega)
          have TP : Int.tmod (x0 * 8347681) 8380417 = scS p i := by rw [Int.tmod_eq_emod_of_nonneg (by omega), hsc]
          obtain ⟨p0, hp0⟩ : ∃ k, x0 * 8347681 = k := ⟨_, rfl⟩
          have WP : IntKind.i64.wrap (x0 * 8347681) = p0 := WP0.trans hp0
          rw [hp0] at TP
          obtain ⟨v0, hv0⟩ : ∃ k, scS p i = k := ⟨_, rfl⟩
          rw [hv0] at TP hst
          have hfi := hI.frozen i
          have ST := Lib.hid hst
          have HI := Lib.hid hI
          have HB := Lib.hid hB
          clear WP0 hI hB b0 hst hv hsc hx0 hp0 hv0
          go_wp2
          go_roundw
          case rel =>
            have hrel : SP4 w cf gf p (.int .i64 ((i : Int) + 1)) (wr.setCell ⟨gf, i, none⟩ (.int .i64 v0)) := ⟨i + 1, by omega, by go_num, by rw [← ST.out]; exact HI.out.set i v0, HB.out.setCell Gf.out _⟩
            first
            | exact hrel
            | (repeat apply Exists.intro
               exact ⟨hrel, rfl⟩)
          case measure => simp [intOf]; omega
        · have e : i = 256 := by omega
          subst e
          have HI := Lib.hid (hI.ext (f' := r) (fun k hk => by rw [← BS.out]; unfold scP; rw [if_pos hk]))
          have HB := Lib.hid hB
          clear hI hB hi hlt
          go_wp2
          go_ret
          exact ⟨gf, cf, rfl, Gf.out, HI.out, HB.out⟩
end Go.Proofs.Ytebicdjnhogniaa.T
