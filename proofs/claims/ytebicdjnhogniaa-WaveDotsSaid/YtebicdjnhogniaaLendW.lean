/- LendInts, LendBytes, KeptInts, KeptBytes: their walks (printed by gen_lend.py). -/
import Derived.Test.YtebicdjnhogniaaLend
namespace Go.Proofs.Ytebicdjnhogniaa.T
open Go.RowKit Go.Proofs.Ytebicdjnhogniaa.PWavePolys Go.Proofs.YtebicdjnhogniaaW.PrintWords Go.Proofs.YtebicdjnhogniaaW.PrintLast
set_option linter.unusedVariables false
set_option linter.unusedSimpArgs false
def LendRel (k : IntKind) (e : TypeId) (m : Int) (w : World) (g : Nat) (xs : List Int) (x : Value) (w' : World) : Prop :=
  ∃ i : Nat, i ≤ 3 ∧ x = .int .i64 i ∧ RK k e w' w.heap.size g (xs.length + 3) (xs ++ (List.replicate i m ++ List.replicate (3 - i) 0)) ∧ Below w.heap.size w w'
theorem lend_set (xs : List Int) (m : Int) (i : Nat) (h : i < 3) : (xs ++ (List.replicate i m ++ List.replicate (3 - i) 0)).set (xs.length + i) m = xs ++ (List.replicate (i + 1) m ++ List.replicate (3 - (i + 1)) 0) := by
  rw [List.set_append_right _ _ (by omega), Nat.add_sub_cancel_left]
  have : i = 0 ∨ i = 1 ∨ i = 2 := by omega
  rcases this with rfl | rfl | rfl <;> rfl
theorem sameI_any (A B : Option Addr) (n m c d : Nat) (xs ys : List Int) (w : World) (hA : Kd.C (Kd.int .i64) w A xs.length xs) (hB : Kd.C (Kd.int .i64) w B ys.length ys) (hn : n = xs.length) (hm : m = ys.length) (hc : n ≤ c) (hd : m ≤ d) (hl : xs.length < 1000000000) (he : xs = ys) :
    Calls Try.prog 14 #[.slice A n c, .slice B m d] w fun e w' => e = .returned (.bool true) ∧ Drawn0 w w' := by
  subst he hn hm
  obtain ⟨k, hk⟩ := (same_ints_f xs hl).rounds
  exact Go.Proofs.Ytebicdjnhogniaa.PWaveRing.chatelainelaw0_SameInts.calls k A c xs B d xs true w hA hc hB hd hk
theorem kept_rd (xs : List Int) (m : Int) (i : Nat) (h : i < 3) : rd (xs ++ List.replicate 3 m) ((xs.length + i : Nat) : Int) = m := by
  unfold rd
  rw [Int.toNat_natCast, List.getD_eq_getElem?_getD, List.getElem?_append_right (by omega), Nat.add_sub_cancel_left]
  have : i = 0 ∨ i = 1 ∨ i = 2 := by omega
  rcases this with rfl | rfl | rfl <;> rfl

set_option maxHeartbeats 1000000 in
theorem lendInts_any (A : Option Addr) (n c : Nat) (xs : List Int) (w : World) (hC : Kd.C (Kd.int .i64) w A xs.length xs) (hn : n = xs.length) (hl : xs.length ≤ 300) :
    Calls Try.prog 24 #[.slice A n c] w fun e w' => ∃ g, e = .returned (.slice (some ⟨g, 0, none⟩) n (n + 3)) ∧ RK .i64 3 w' w.heap.size g (n + 3) (xs ++ List.replicate 3 (-777)) ∧ Below w.heap.size w w' ∧ w.heap.size ≤ g := by
  have HC := Lib.hid hC
  have hnl : n ≤ 300 := by omega
  have HN := Lib.hid hn
  clear hC hn
  go_enter Try.func24, Try.ntmps24
  go_wp2_with (first
    | ((with_reducible refine gate_dst (N := 9) rfl ?_); refine lend_make .i64 3 22 rfl _ _ rfl n rfl rfl Try.underlying22 8 info3 (by omega) (by omega) ?_; intro g w1 hR hB hg; have HR := Lib.hid hR; have HB := Lib.hid hB; have HG := Lib.hid hg; have HC1 := Lib.hid (Kd.C_below HC.out hB); clear hR hB hg)
    | ((with_reducible refine gate_builtin (b := .append) (xs := #[.tmp 10, .tmp 11]) rfl ?_); at_builtin; refine lend_append .i64 3 22 rfl _ _ rfl Try.underlying22 8 info3 A n c g w.heap.size xs rfl rfl HN.out HR.out HC1.out ?_; intro w2 hR hgr; have HR2 := Lib.hid hR; have HB2 := Lib.hid (HB.out.grown hgr HB.out.size (fun k hk => by cases hk; exact HG.out)); clear hR hgr))
  go_loopw [5] (fun x w' => LendRel .i64 3 (-777) w g xs x w') (fun x _ => (3 - intOf x).toNat)
  case atStart => exact ⟨0, by omega, rfl, by have h := HR2.out; rw [HN.out] at h; simpa using h, HB2.out⟩
  case round =>
    clear HR HB HC1 HR2 HB2
    obtain ⟨i, hi, rfl, hR, hB⟩ := hrel
    by_cases hlt : i < 3
    · have hc := Kd.R_celln (0 : Int) hR ((n + i : Nat) : Int) (by omega) (by have := HN.out; omega)
      rw [Int.toNat_natCast] at hc
      obtain ⟨hc1, hc2⟩ := hc
      have hp := (Kd.R_putg hR ((n + i : Nat) : Int) (-777)).1
      rw [Int.toNat_natCast] at hp
      have hset := lend_set xs (-777) i hlt
      rw [← HN.out] at hset
      rw [hset] at hp
      have HP := Lib.hid hp
      have HB := Lib.hid hB
      clear hR hB hp hset
      go_wp2
      go_roundw
      case rel => exact ⟨i + 1, by omega, by go_num, HP.out, below_set HB.out HG.out⟩
      case measure => simp [intOf]; omega
    · have e : i = 3 := by omega
      subst e
      have HR := Lib.hid hR
      have HB := Lib.hid hB
      clear hR hB
      go_wp2
      go_ret
      exact ⟨g, rfl, by have h := HR.out; rw [← HN.out] at h; simpa using h, HB.out, HG.out⟩
set_option maxHeartbeats 1000000 in
theorem keptInts_any (g n : Nat) (A : Option Addr) (m c : Nat) (xs : List Int) (w : World) (hL : Kd.C (Kd.int .i64) w (some ⟨g, 0, none⟩) (xs.length + 3) (xs ++ List.replicate 3 (-777))) (hC : Kd.C (Kd.int .i64) w A xs.length xs) (hn : n = xs.length) (hm : m = xs.length) (hc : m ≤ c) (hl : xs.length ≤ 300) :
    Calls Try.prog 33 #[.slice (some ⟨g, 0, none⟩) n (n + 3), .slice A m c] w fun e w' => e = .returned (.bool true) ∧ Drawn0 w w' := by
  have e3 : xs.length + 3 = (xs ++ List.replicate 3 (-777 : Int)).length := by simp
  have hL' := hL
  rw [e3] at hL'
  have hL1 := Kd.C_take (m := xs.length) hL' (by omega)
  clear hL' e3
  rw [List.take_append_of_le_length (Nat.le_refl _), List.take_length] at hL1
  have HL1 := Lib.hid hL1
  have HL := Lib.hid hL
  have HC := Lib.hid hC
  have hnl : n ≤ 300 := by omega
  have HN := Lib.hid hn
  have HM := Lib.hid hm
  clear hL hC hn hm hL1
  go_enter Try.func33, Try.ntmps33
  go_wp2
  go_loopw [6] (fun x w' => ∃ i : Nat, i ≤ 3 ∧ x = .int .i64 i ∧ w' = w) (fun x _ => (3 - intOf x).toNat)
  case atStart => exact ⟨0, by omega, rfl, rfl⟩
  case round =>
    obtain ⟨i, hi, rfl, rfl⟩ := hrel
    by_cases hlt : i < 3
    · obtain ⟨ad, hA, hcell⟩ := Kd.at_int HL.out ((n + i : Nat) : Int) (by omega) (by have := HN.out; omega)
      injection hA with hA
      subst hA
      have hrd := kept_rd xs (-777) i hlt
      rw [← HN.out] at hrd
      rw [hrd, Int.toNat_natCast] at hcell
      simp only [Addr.add_lit, Nat.zero_add] at hcell
      clear hrd
      go_wp2
      go_roundw
      case rel => first | exact ⟨i + 1, by omega, by go_num, rfl⟩ | exact ⟨i + 1, by omega, by go_num⟩ | exact ⟨i + 1, by omega, by go_num, trivial⟩
      case measure => simp [intOf]; omega
    · go_wp2_with (go_at_call 14; (with_reducible refine (sameI_any _ _ _ _ _ _ xs xs _ HL1.out HC.out HN.out HM.out (by omega) hc (by omega) rfl).mono ?_); rintro e w' ⟨rfl, ⟨nd, rfl⟩⟩)
      go_ret
      exact ⟨rfl, Drawn0.refl _ |>.step _⟩

theorem over_ints_f (n : Nat) (hn : n < 1000000) : ∀ (m i : Nat), i + m = n → ∀ xs : List Int, xs.length = n → Ev (fun k => chatelainelaw0_OverInts.l0 k xs i) () := by
  intro m
  induction m with
  | zero =>
    intro i hi xs hx
    refine ⟨1, fun k hk => ?_⟩
    obtain ⟨k, rfl⟩ : ∃ q, k = q + 1 := ⟨k - 1, by omega⟩
    simp only [chatelainelaw0_OverInts.l0]
    rw [if_neg (by omega), if_pos (by omega)]
  | succ m ih =>
    intro i hi xs hx
    refine Ev.step (f := fun k => chatelainelaw0_OverInts.l0 k (xs.set i (-999)) ((i + 1 : Nat) : Int)) (fun k => ?_) (ih (i + 1) (by omega) _ (by rw [List.length_set]; exact hx))
    simp only [chatelainelaw0_OverInts.l0]
    rw [if_pos (by omega), if_pos (by omega), wrap_s (a := (i : Int) + 1) (by omega) (by omega), Int.toNat_natCast]
    rfl
abbrev RI (w : World) (base : Nat) (v : Value) (xs : List Int) : Prop := Kd.R (Kd.int .i64) 3 w base (fun _ => True) v xs
theorem overI_any (w0 w : World) (b : Nat) (v : Value) (xs : List Int) (hB : Below w0.heap.size w0 w) (hb : w0.heap.size ≤ b) (hR : RI w b v xs) (hl : xs.length < 1000000) :
    Calls Try.prog 32 #[v] w fun e w' => e = .returned (.tuple #[]) ∧ Below w0.heap.size w0 w' ∧ Kept w w' (fun j => some j = v.ownBlock) := by
  obtain ⟨k, hk⟩ := (over_ints_f xs.length hl xs.length 0 (by omega) xs rfl).rounds
  exact chatelainelaw0_OverInts.calls k _ v xs w0 w hB (Kd.R_tight rfl (Kd.R_lower hR hb)) hk
theorem kept_row {W W2 : World} {k : IntKind} {e base : Nat} {v u : Value} {xs : List Int} (h : Kd.R (Kd.int k) e W base (fun _ => True) v xs) (hk : Kept W W2 (fun j => some j = u.ownBlock)) (hne : ∀ j, v.ownBlock = some j → some j ≠ u.ownBlock) : Kd.R (Kd.int k) e W2 base (fun _ => True) v xs :=
  Kd.R_mono (Kd.R_kept (Kd.R_tight rfl h) hk (fun j hj => hne j hj.symm)) (fun _ _ => trivial)
theorem keep_apart {W W1 : World} {b1 b2 e1 e2 : Nat} {v u : Value} {xs ys : List Int} {k1 k2 : IntKind} (h1 : Kd.R (Kd.int k1) e1 W b1 (fun _ => True) v xs) (h2 : Kd.R (Kd.int k2) e2 W1 b2 (fun _ => True) u ys) (hle : W.heap.size ≤ b2) : ∀ k, v.ownBlock = some k → some k ≠ u.ownBlock := fun k hk e => by
  have a := (Kd.R_bound h1).1 k hk
  have b := (Kd.R_bound h2).1 k e.symm
  omega
theorem lent_C {W : World} {k : IntKind} {e base g n : Nat} {xs : List Int} {m : Int} (h : RK k e W base g (n + 3) (xs ++ List.replicate 3 m)) (hn : n = xs.length) : Kd.C (Kd.int k) W (some ⟨g, 0, none⟩) (xs.length + 3) (xs ++ List.replicate 3 m) ∧ Kd.C (Kd.int k) W (some ⟨g, 0, none⟩) xs.length xs := by
  have h1 := (Kd.R_reads' h).2.2
  have e3 : (xs ++ List.replicate 3 m).length = xs.length + 3 := by simp
  have h2 := Kd.C_take (m := xs.length) h1 (by omega)
  rw [List.take_append_of_le_length (Nat.le_refl _), List.take_length] at h2
  rw [e3] at h1
  exact ⟨h1, h2⟩
end Go.Proofs.Ytebicdjnhogniaa.T
