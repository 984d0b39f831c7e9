/- Lemmas of the proof, and the walks of functions that it stands on. -/
import Derived.Test.YtdiilocgjnlmiaaCpgByteText
section
namespace Go.Proofs.Ytdiilocgjnlmiaa.Tre
open Go.RowKit Go.Proofs.YtdiilocgjnlmiaaW.PrintWords Go.Proofs.YtdiilocgjnlmiaaW.PrintLast Go.Proofs.YtdiilocgjnlmiaaW.PrintMore
open Go.Proofs.Ytdiilocgjnlmiaa.PAll
set_option linter.unusedVariables false
set_option linter.unusedSimpArgs false
theorem enc_fin : ∀ n : Fin 128, Utf8.encode (n.val : Int) = oneB (n.val : Int) := by decide +kernel
theorem enc_one {b : Int} (h0 : 0 ≤ b) (h1 : b < 128) : Utf8.encode b = oneB b := by
 have h := enc_fin ⟨b.toNat, by omega⟩
 simpa [Int.toNat_of_nonneg h0] using h
theorem idx_fin : ∀ n : Fin 256, esc (n.val : Int) = false → Lib.indexByte [92, 34, 91, 93, 45, 94] n.val.toUInt8 = -1 := by decide +kernel
theorem idx_no {b : Int} (h0 : 0 ≤ b) (h1 : b ≤ 255) (h : esc b = false) : Lib.indexByte [92, 34, 91, 93, 45, 94] b.toNat.toUInt8 = -1 :=
 idx_fin ⟨b.toNat, by omega⟩ (by rw [show ((b.toNat : Nat) : Int) = b from Int.toNat_of_nonneg h0]; exact h)
theorem hex_fin : ∀ n : Fin 16, Utf8.encode ((((⟨#[48, 49, 50, 51, 52, 53, 54, 55, 56, 57, 97, 98, 99, 100, 101, 102]⟩ : ByteArray)[n.val]'n.isLt).toNat : Nat) : Int) = hexB n.val := by decide +kernel
theorem hex_enc {v : Nat} (hv : v < 16) (h : v < (⟨#[48, 49, 50, 51, 52, 53, 54, 55, 56, 57, 97, 98, 99, 100, 101, 102]⟩ : ByteArray).size) : Utf8.encode ((((⟨#[48, 49, 50, 51, 52, 53, 54, 55, 56, 57, 97, 98, 99, 100, 101, 102]⟩ : ByteArray)[v]'h).toNat : Nat) : Int) = hexB v := hex_fin ⟨v, hv⟩
theorem w32_fin : ∀ n : Fin 256, IntKind.i32.wrap (n.val : Int) = (n.val : Int) := by decide +kernel
set_option maxRecDepth 100000 in
set_option maxHeartbeats 8000000 in
theorem ibyte_in (b : Int) (h0 : 0 ≤ b) (h1 : b ≤ 255) (w : World) : Calls Try.prog 166 #[.int .i64 b] w (StrPost w (btF b)) := by
 by_cases c1 : b = 10
 ·subst c1
  go_enter Try.func166, Try.ntmps166
  go_wp2_with fail
  go_ret
  exact ⟨rfl, Below.refl _ _⟩
 by_cases c2 : b = 9
 ·subst c2
  go_enter Try.func166, Try.ntmps166
  go_wp2_with fail
  go_ret
  exact ⟨rfl, Below.refl _ _⟩
 by_cases c3 : b = 13
 ·subst c3
  go_enter Try.func166, Try.ntmps166
  go_wp2_with fail
  go_ret
  exact ⟨rfl, Below.refl _ _⟩
 have b1 : (b == 10) = false := beq_eq_false_iff_ne.mpr c1
 have b2 : (b == 9) = false := beq_eq_false_iff_ne.mpr c2
 have b3 : (b == 13) = false := beq_eq_false_iff_ne.mpr c3
 have hw : IntKind.u8.wrap b = b := by
  have : IntKind.u8.wrap b = b % 256 := rfl
  rw [this]; omega
 have hw2 : IntKind.i32.wrap b = b := by
  have h := w32_fin ⟨b.toNat, by omega⟩
  simpa [Int.toNat_of_nonneg h0] using h
 cases c4 : esc b with
 | true =>
  have HE : Aside0 (btF b = ⟨#[92]⟩ ++ oneB b) := ⟨by unfold btF; rw [if_neg c1, if_neg c2, if_neg c3, if_pos c4]⟩
  obtain ⟨k, hk, hk0⟩ : ∃ k, Lib.indexByte (⟨#[92, 34, 91, 93, 45, 94]⟩ : ByteArray).data.toList b.toNat.toUInt8 = k ∧ 0 ≤ k := by
   rcases esc_yes c4 with rfl | rfl | rfl | rfl | rfl | rfl
   ·exact ⟨0, by decide, by decide⟩
   ·exact ⟨1, by decide, by decide⟩
   ·exact ⟨2, by decide, by decide⟩
   ·exact ⟨3, by decide, by decide⟩
   ·exact ⟨4, by decide, by decide⟩
   exact ⟨5, by decide, by decide⟩
  have d : decide (k ≥ 0) = true := decide_eq_true hk0
  have hen : Utf8.encode b = oneB b := enc_one h0 (by rcases esc_yes c4 with rfl | rfl | rfl | rfl | rfl | rfl <;> decide)
  have s1 := size_oneB b
  have HK := Aside0.mk hk
  clear c4 c1 c2 c3 hk
  go_enter Try.func166, Try.ntmps166
  go_wp2_with (go_at_call 179; refine (Try.strings_IndexByte _ _ _).mono ?_; go_must (rintro e W1 ⟨rfl, rfl⟩; rw [HK.out]))
  go_ret
  rw [HE.out]
  exact ⟨rfl, Below.refl _ _⟩
 | false =>
  have HK : Aside0 (Lib.indexByte (⟨#[92, 34, 91, 93, 45, 94]⟩ : ByteArray).data.toList b.toNat.toUInt8 = -1) := ⟨idx_no h0 h1 c4⟩
  by_cases c5 : 32 ≤ b ∧ b ≤ 126
  ·have HE : Aside0 (btF b = oneB b) := ⟨by unfold btF; rw [if_neg c1, if_neg c2, if_neg c3, if_neg (by rw [c4]; simp), if_pos c5]⟩
   have g1 : decide (b ≥ 32) = true := decide_eq_true c5.1
   have g2 : decide (b ≤ 126) = true := decide_eq_true c5.2
   have hen : Utf8.encode b = oneB b := enc_one h0 (by omega)
   clear c4 c1 c2 c3 c5
   go_enter Try.func166, Try.ntmps166
   go_wp2_with (go_at_call 179; refine (Try.strings_IndexByte _ _ _).mono ?_; go_must (rintro e W1 ⟨rfl, rfl⟩; rw [HK.out]))
   go_ret
   rw [HE.out]
   exact ⟨rfl, Below.refl _ _⟩
  have HE : Aside0 (btF b = (⟨#[92, 120]⟩ ++ hexB (b / 16).toNat) ++ hexB (b % 16).toNat) := ⟨by unfold btF; rw [if_neg c1, if_neg c2, if_neg c3, if_neg (by rw [c4]; simp), if_neg c5]⟩
  obtain ⟨v1, hv1⟩ : ∃ v : Nat, b / 16 = (v : Int) := ⟨(b / 16).toNat, by omega⟩
  obtain ⟨v2, hv2⟩ : ∃ v : Nat, b % 16 = (v : Int) := ⟨(b % 16).toNat, by omega⟩
  have l1 : v1 < 16 := by omega
  have l2 : v2 < 16 := by omega
  have t1 : Int.tdiv b 16 = (v1 : Int) := by rw [Int.tdiv_eq_ediv_of_nonneg h0, hv1]
  have t2 : Int.tmod b 16 = (v2 : Int) := by rw [Int.tmod_eq_emod_of_nonneg h0, hv2]
  have w1 : IntKind.i64.wrap (v1 : Int) = (v1 : Int) := (i64_w _).trans (wid (by omega) (by omega))
  rw [hv1, hv2, Int.toNat_natCast, Int.toNat_natCast] at HE
  have g : decide (b ≥ 32) = false ∨ (decide (b ≥ 32) = true ∧ decide (b ≤ 126) = false) := by
   by_cases h : 32 ≤ b
   ·exact .inr ⟨decide_eq_true h, decide_eq_false (by omega)⟩
   exact .inl (decide_eq_false (by omega))
  have e1 : (0 ≤ (v1 : Int)) = True := eq_true (by omega)
  have e2 : ((v1 : Int) < 16) = True := eq_true (by omega)
  have e3 : (0 ≤ (v2 : Int)) = True := eq_true (by omega)
  have e4 : ((v2 : Int) < 16) = True := eq_true (by omega)
  have k1 := fun h => hex_enc (v := v1) l1 h
  have k2 := fun h => hex_enc (v := v2) l2 h
  have s1 : (⟨#[92, 120]⟩ ++ hexB v1 : ByteArray).size ≤ 3 := by
   have := size_hexB v1
   rw [ByteArray.size_append]
   show 2 + _ ≤ 3
   omega
  have s0 := size_hexB v1
  have s2 := size_hexB v2
  have n1 : (v1 < 16) = True := eq_true l1
  have n2 : (v2 < 16) = True := eq_true l2
  clear c4 c1 c2 c3 c5 hv1 hv2 hw2
  rcases g with g | ⟨g1, g2⟩
  ·go_enter Try.func166, Try.ntmps166
   go_wp2_with (go_at_call 179; refine (Try.strings_IndexByte _ _ _).mono ?_; go_must (rintro e W1 ⟨rfl, rfl⟩; rw [HK.out]))
   go_quiet (fail)
   (try go_wp2_with fail)
   go_ret
   rw [HE.out]
   exact ⟨rfl, by repeat (first | exact Below.refl _ _ | apply pw_below_drewN | apply Below.drew)⟩
  go_enter Try.func166, Try.ntmps166
  go_wp2_with (go_at_call 179; refine (Try.strings_IndexByte _ _ _).mono ?_; go_must (rintro e W1 ⟨rfl, rfl⟩; rw [HK.out]))
  go_quiet (fail)
  (try go_wp2_with fail)
  go_ret
  rw [HE.out]
  exact ⟨rfl, by repeat (first | exact Below.refl _ _ | apply pw_below_drewN | apply Below.drew)⟩
end Go.Proofs.Ytdiilocgjnlmiaa.Tre
end
section
namespace Go.Proofs.Ytdiilocgjnlmiaa.Tre
open Go.RowKit Go.Proofs.YtdiilocgjnlmiaaW.PrintWords Go.Proofs.YtdiilocgjnlmiaaW.PrintLast Go.Proofs.YtdiilocgjnlmiaaW.PrintMore
open Go.Proofs.Ytdiilocgjnlmiaa.PAll
set_option linter.unusedVariables false
set_option linter.unusedSimpArgs false
theorem cells_app (s t : ByteArray) : Lib.strCells (s ++ t) = Lib.strCells s ++ Lib.strCells t := by
 unfold Lib.strCells
 rw [ByteArray.data_append, Array.toList_append, List.map_append]
theorem cells_len (s : ByteArray) : (Lib.strCells s).length = s.size := by
 unfold Lib.strCells
 rw [List.length_map, Array.length_toList]
 rfl
theorem cells_one (x : Nat) (hx : x < 256) : Lib.strCells (oneB (x : Int)) = [.int .u8 (x : Int)] := by
 have h : ∀ n : Fin 256, Lib.strCells (oneB (n.val : Int)) = [.int .u8 (n.val : Int)] := by
  intro n
  simp [Lib.strCells, oneB, strOfNums]
 exact h ⟨x, hx⟩
structure SB (w0 w : World) (b : Nat) (s : ByteArray) : Prop where
 is : Lib.IsBuilder 132 5 w0.heap.size b (Lib.strCells s) w
 bel : Below w0.heap.size w0 w
theorem BuilderAt_below {T e : TypeId} {B b : Nat} {p : Value} {bs : List Value} {w w' : World} (h : Lib.BuilderAt T e B b p bs w) (hb : Below w.heap.size w w') : Lib.BuilderAt T e B b p bs w' := by
 obtain ⟨h1, v, h2, h3, h4⟩ := h
 exact ⟨h1, v, blk_below h2 hb, own_same h3 fun k _ hk => hb.block k hk, h4⟩
theorem SB.below {w0 w w' : World} {b : Nat} {s : ByteArray} (h : SB w0 w b s) (hb : Below w.heap.size w w') : SB w0 w' b s :=
 ⟨h.is.elim (fun h => .inl (BuilderAt_below h hb)) (fun h => .inr (BuilderAt_below h hb)), below_then h.bel h.bel.size hb⟩
theorem SB.newAt {w W : World} {b : Nat} (hb : Below w.heap.size w W) (he : b = W.heap.size) : SB w (W.alloc (.cells #[.pointer none, .slice none 0 0] 132)) b ByteArray.empty := by
 subst he
 have low : ∀ p, Lib.BuilderAt 132 5 W.heap.size W.heap.size p [] (W.alloc (.cells #[.pointer none, .slice none 0 0] 132)) → Lib.BuilderAt 132 5 w.heap.size W.heap.size p [] (W.alloc (.cells #[.pointer none, .slice none 0 0] 132)) := fun p h => by
  obtain ⟨h1, v, h2, h3, h4⟩ := h
  exact ⟨hb.size, v, h2, own_lower' h3 hb.size, h4⟩
 exact ⟨(Lib.fresh_isBuilder _ _ W).elim (fun h => .inl (low _ h)) (fun h => .inr (low _ h)), below_alloc hb _⟩
theorem sb_str {w0 w : World} {b : Nat} {s : ByteArray} (t : ByteArray) (h : SB w0 w b s) (hl : s.size + t.size ≤ 1099511627776) :
 Calls Try.prog 91 #[.pointer (some ⟨b, 0, none⟩), .string t] w fun e w' => e = .returned (.tuple #[.int .i64 t.size, .nilIface]) ∧ SB w0 w' b (s ++ t) :=
 (writeString_in w _ b _ t h.is (by rw [cells_len]; exact hl) h.bel.size).mono fun e w' k => ⟨k.1, by rw [← cells_app] at k; exact .inr k.2.1, h.bel.trans k.2.2⟩
theorem sb_byte {w0 w : World} {b : Nat} {s : ByteArray} (x : Int) (hx0 : 0 ≤ x) (hx : x < 256) (h : SB w0 w b s) (hl : s.size + 1 ≤ 1099511627776) :
 Calls Try.prog 167 #[.pointer (some ⟨b, 0, none⟩), .int .u8 x] w fun e w' => e = .returned .nilIface ∧ SB w0 w' b (s ++ oneB x) := by
 obtain ⟨n, rfl⟩ : ∃ n : Nat, x = (n : Int) := ⟨x.toNat, by omega⟩
 exact (writeByte_in w _ b _ (n : Int) h.is (by rw [cells_len]; exact hl) h.bel.size).mono fun e w' k => ⟨k.1, by rw [← cells_one n (by omega), ← cells_app] at k; exact .inr k.2.1, h.bel.trans k.2.2⟩
theorem sb_end {w0 w : World} {b : Nat} {s : ByteArray} (h : SB w0 w b s) :
 Calls Try.prog 93 #[.pointer (some ⟨b, 0, none⟩)] w fun e w' => e = .returned (.string s) ∧ Below w0.heap.size w0 w' := by
 refine (Try.Builder_String_any w0.heap.size b s.data.toList w h.is h.bel.size).mono fun e w' k => ⟨?_, h.bel.trans k.2⟩
 rw [k.1]
end Go.Proofs.Ytdiilocgjnlmiaa.Tre
end
