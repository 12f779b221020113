/- The law FnExactStoreMissing, walked: for every argument it answers true. -/
import Derived.Test.YteldghgdpklkfaaRchI
import Derived.Test.YteldghgdpklkfaaDrawRch
import Derived.Test.YteldghgdpklkfaaMarkO
namespace Go.Proofs.Yteldghgdpklkfaa
open Go.RowKit Go.Sort

theorem below_grownY {a b c : World} {B g : Nat} (h : Below B a b) (hg : b.grownBy c (some g)) (hB : B ≤ g) (hs : B ≤ a.heap.size := by omega) : Below B a c :=
  ⟨hg.os.trans h.os, hg.tape.trans h.tape, hg.output.trans h.output, Nat.le_trans h.size hg.size, fun i hi => (hg.block i (Nat.lt_of_lt_of_le (Nat.lt_of_lt_of_le hi hs) h.size) (fun e => by injection e with e; omega)).trans (h.block i hi)⟩
set_option maxRecDepth 100000 in
set_option maxHeartbeats 1600000 in
theorem FnExactStoreMissing_walk (A : Option Addr) (n c : Nat) (os : List Ob) (F : Option Addr) (m d : Nat) (fs : List Int) (w : World) (h : RObjs w A n os) (hn : n ≤ maxLen) (hf : RInts w F m fs) (hm : m ≤ maxLen) :
    Calls Try.prog 5 #[.slice A n c, .slice F m d] w fun e w' => e = .returned (.bool true) ∧ Below w.heap.size w w' := by
  have hm0 := hm
  unfold maxLen at hm0
  by_cases hbig : 1048576 < m
  · go_enter Try.func5, Try.ntmps5
    go_wp2_with fail
    go_ret
    exact ⟨rfl, Below.refl _ _⟩
  · have HL := Lib.hid (And.intro h.1 hf.1)
    go_enter Try.func5, Try.ntmps5
    go_wp2_with fail
    refine (szObjectS_any _ _ _ os _ _ h hn (by omega) (by omega)).mono ?_
    rintro e w1 ⟨⟨v, rfl, r, rfl, hs⟩, hb1⟩
    rcases hs with hs | ⟨hs0, hsl, hsm⟩
    · go_wp2_with fail
      go_ret
      exact ⟨rfl, hb1⟩
    · have hs0b : decide (r < 0) = false := decide_eq_false (by omega)
      have hn20 : n ≤ 1048576 := by have := hsm.1; have := HL.out.1; omega
      have hmm : m ≤ 2000000 := by omega
      go_wp2_with fail
      refine (toObjectS_any A n c os w1 (h.next hb1) hsm).mono ?_
      rintro e w2 ⟨bs2, rfl, ho2, hb2⟩
      have b2 := below_ext hb1 hb2
      go_wp2_with fail
      refine (toIntS_any F m d fs w2 (hf.below b2 (Nat.le_refl _)) hmm).mono ?_
      rintro e w3 ⟨rfl, hz3, hb3⟩
      have b3 := below_ext b2 hb3
      go_wp2_with fail
      refine (specStoreMissing_any _ n n os _ m m fs w3 ((ho2.next hb3).reads HL.out.1.symm hsm) hn (RInts.of_blk hz3 HL.out.2.symm) hm).mono ?_
      rintro e w4 ⟨WA, wd, L, rfl, hL, hW, hb4⟩
      have hll := hL.len
      have hW4 := RInts.of_own hW
      have b4 := below_ext b3 hb4
      clear hW ho2 hz3 hb1 hb2 hb3 hb4 b2 b3
      -- the arguments' copies
      go_wp2_with fail
      refine (toObjectS_any A n c os w4 (h.next b4) hsm).mono ?_
      rintro e w5 ⟨bs5, rfl, ho5, hb5⟩
      have hmk5 := ho5.mk HL.out.1.symm hsm
      have b5 := below_ext b4 hb5
      go_wp2_with fail
      refine (toIntS_any F m d fs w5 (hf.below b5 (Nat.le_refl _)) hmm).mono ?_
      rintro e w6 ⟨rfl, hz6, hb6⟩
      have b6 := below_ext b5 hb6
      have hx6 := ho5.next hb6
      have hz56 : w5.heap.size < w6.heap.size := hz6.lt
      have hz45 : w4.heap.size ≤ w5.heap.size := hb5.size
      have b46 := below_ext hb5 hb6
      clear ho5
      go_wp2_with fail
      refine (implStoreMissing_any _ n n os _ m m fs w6 (hx6.reads HL.out.1.symm hsm) hn (RInts.of_blk hz6 HL.out.2.symm) hm).mono ?_
      rintro e w7 ⟨GA, gd, L2, rfl, hL2, hG, hb7⟩
      obtain rfl := hL.uniq hL2
      have hG7 := LinkIn.of_own hG
      have hx7 := hx6.next hb7
      have hz7 := hz6.next hb7
      have hm7 := hmk5.next hb6 |>.next hb7
      have b7 := below_ext b6 hb7
      have b47 := below_ext b46 hb7
      have hz67 := hb7.size
      clear hG hx6 hz6 hmk5 hL2 b5 b6 b46 hb5 hb6 hb7
      go_wp2_with fail
      refine (eqIntS_any _ _ _ _ _ _ L L w7 hG7.1 (hW4.below b47 (Nat.le_refl _)) (by simp only [maxLen]; omega) (by simp only [maxLen]; omega)).mono ?_
      rw [eqI_same]
      rintro e w8 ⟨rfl, hb8⟩
      have hG8 := hG7.next hb8
      have hx8 := hx7.next hb8
      have hz8 := hz7.next hb8
      have hm8 := hm7.next hb8
      have b8 := below_ext b7 hb8
      have b48 := below_ext b47 hb8
      have hs8 := hb8.size
      clear hG7 hx7 hz7 hm7 b7 b47 hb8
      go_wp2_with fail
      refine (toObjectS_any A n c os w8 (h.next b8) hsm).mono ?_
      rintro e w9 ⟨bs9, rfl, ho9, hb9⟩
      have hG9 := hG8.next hb9
      have hx9 := hx8.next hb9
      have hz9 := hz8.next hb9
      have hm9 := hm8.next hb9
      have b9 := below_ext b8 hb9
      have b49 := below_ext b48 hb9
      have hs9 := hb9.size
      clear hG8 hx8 hz8 hm8 b8 b48 hb9
      go_wp2_with fail
      refine (eqObjectS_any _ _ _ _ _ _ os os w9 (hx9.reads HL.out.1.symm hsm) (ho9.reads HL.out.1.symm hsm) hn hn).mono ?_
      rw [eqOs_refl]
      rintro e w10 ⟨rfl, hb10⟩
      have hG10 := hG9.next hb10
      have hz10 := hz9.next hb10
      have hm10 := hm9.next hb10
      have b10 := below_ext b9 hb10
      have b410 := below_ext b49 hb10
      have hs10 := hb10.size
      clear hG9 hx9 hz9 hm9 b9 b49 hb10 ho9
      go_wp2_with fail
      refine (toIntS_any F m d fs w10 (hf.below b10 (Nat.le_refl _)) hmm).mono ?_
      rintro e w11 ⟨rfl, hz11, hb11⟩
      have hG11 := hG10.next hb11
      have hx11 := hz10.next hb11
      have hm11 := hm10.next hb11
      have b11 := below_ext b10 hb11
      have b411 := below_ext b410 hb11
      have hs11 := hb11.size
      clear hG10 hz10 hm10 b10 b410 hb11
      go_wp2_with fail
      refine (eqIntS_any _ _ _ _ _ _ fs fs w11 (RInts.of_blk hx11 HL.out.2.symm) (RInts.of_blk hz11 HL.out.2.symm) hm hm).mono ?_
      rw [eqI_same]
      rintro e w12 ⟨rfl, hb12⟩
      have hG12 := hG11.next hb12
      have hx12 := hx11.next hb12
      have hm12 := hm11.next hb12
      have b12 := below_ext b11 hb12
      have b412 := below_ext b411 hb12
      have hs12 := hb12.size
      clear hG11 hx11 hm11 b11 b411 hb12 hz11
      -- marks on the arguments
      go_wp2_with fail
      refine (markObjectS_any w4.heap.size w5.heap.size _ n n 1 w12 hm12 (by omega) (by omega)).mono ?_
      rintro e w13 ⟨k1, rfl, hk1, hk2, -, hmid⟩
      have hG13 := hG12.mid hmid (by omega)
      have hx13 := hmid.blk hx12 (Or.inr (Nat.le_refl _))
      have b13 := b12.trans (hmid.below (by omega) |>.mono b4.size)
      have b413 := b412.trans (hmid.below (by omega))
      have hs13 := hmid.size
      have hk13 : k1 ≤ 3000000000000 := by omega
      clear hG12 hx12 hm12 b12 b412 hmid
      go_wp2_with fail
      refine (markIntS_any w5.heap.size w6.heap.size (some ⟨w5.heap.size, 0, none⟩) m m (k1 : Int) w13 (fun hm0 => ⟨w5.heap.size, _, rfl, Nat.le_refl _, hz56, hx13, by rw [length_ints, HL.out.2]; exact Nat.le_refl _⟩) (by omega) (by omega)).mono ?_
      rintro e w14 ⟨rfl, hg14, -, -⟩
      have hob : (Value.slice (some (⟨w5.heap.size, 0, none⟩ : Addr)) m m).ownBlock = some w5.heap.size := by simp [Value.ownBlock]
      rw [hob] at hg14
      have hG14 := hG13.grown hg14 (fun g e => Or.inl (by injection e with e; omega))
      have b14 : Below w.heap.size w w14 := below_grownY b13 hg14 (by have := b4.size; omega)
      have b414 : Below w4.heap.size w4 w14 := below_grownY b413 hg14 hz45
      have hs14 := hg14.size
      have hkn : decide ((k1 : Int) + (m : Int) < 0) = false := decide_eq_false (by omega)
      clear hG13 hx13 b13 b413 hg14 hob
      go_wp2_with fail
      refine (eqIntS_any _ _ _ _ _ _ L L w14 hG14.1 (hW4.below b414 (Nat.le_refl _)) (by simp only [maxLen]; omega) (by simp only [maxLen]; omega)).mono ?_
      rw [eqI_same]
      rintro e w15 ⟨rfl, hb15⟩
      have hG15 := hG14.next hb15
      have b15 := below_ext b14 hb15
      have b415 := below_ext b414 hb15
      have hs15 := hb15.size
      clear hG14 b14 b414 hb15
      -- marks on the result
      go_wp2_with fail
      refine (markIntS_any w6.heap.size w15.heap.size GA L.length gd 1 w15 hG15.wi (by omega) (by omega)).mono ?_
      intro e w16 hmk
      have hG16 := hG15.marked hmk
      obtain ⟨rfl, hg16, hz16, -⟩ := hmk
      have b16 : Below w.heap.size w w16 ∧ Below w4.heap.size w4 w16 := by
        cases GA with
        | none =>
          have h0 : L.length = 0 := by
            rcases Nat.eq_zero_or_pos L.length with h0 | h0
            · exact h0
            · obtain ⟨_, e, _⟩ := hG15.1.2 h0
              cases e
          rw [hz16 h0]
          exact ⟨b15, b415⟩
        | some a =>
          have ha := (hG15.2 a rfl).1
          have hob : (Value.slice (some a) L.length gd).ownBlock = some a.block := by simp [Value.ownBlock]
          rw [hob] at hg16
          exact ⟨below_grownY b15 hg16 (by have := b4.size; omega), below_grownY b415 hg16 (by omega)⟩
      obtain ⟨b16, b416⟩ := b16
      have hs16 := hg16.size
      clear hG15 b15 b415 hg16 hz16
      go_wp2_with fail
      refine (heldIntS_any GA L.length gd 1 w16 hG16.1 (by omega) (by omega)).mono ?_
      rintro e w17 ⟨rfl, hb17⟩
      have hG17 := hG16.next hb17
      have b17 := below_ext b16 hb17
      have b417 := below_ext b416 hb17
      have hs17 := hb17.size
      have hqn : decide ((1 : Int) + (L.length : Int) < 0) = false := decide_eq_false (by omega)
      have hqe : ((1 : Int) + (L.length : Int) != 1 + (L.length : Int)) = false := by simp
      clear hG16 b16 b416 hb17
      go_wp2_with fail
      refine (toObjectS_any A n c os w17 (h.next b17) hsm).mono ?_
      rintro e w18 ⟨bs18, rfl, ho18, hb18⟩
      have hG18 := hG17.next hb18
      have b18 := below_ext b17 hb18
      have b418 := below_ext b417 hb18
      clear hG17 b17 b417
      go_wp2_with fail
      refine (toIntS_any F m d fs w18 (hf.below b18 (Nat.le_refl _)) hmm).mono ?_
      rintro e w19 ⟨rfl, hz19, hb19⟩
      have hG19 := hG18.next hb19
      have b19 := below_ext b18 hb19
      have b419 := below_ext b418 hb19
      clear hG18 b18 b418
      go_wp2_with fail
      refine (implStoreMissing_any _ n n os _ m m fs w19 ((ho18.next hb19).reads HL.out.1.symm hsm) hn (RInts.of_blk hz19 HL.out.2.symm) hm).mono ?_
      rintro e w20 ⟨HA, hd, L3, rfl, hL3, hH, hb20⟩
      obtain rfl := hL.uniq hL3
      have hH20 := RInts.of_own hH
      have hG20 := hG19.next hb20
      have b20 := below_ext b19 hb20
      have b420 := below_ext b419 hb20
      clear hG19 b19 b419 hH hL3 ho18 hz19 hb18 hb19 hb20
      go_wp2_with fail
      refine (eqIntS_any _ _ _ _ _ _ L L w20 hH20 (hW4.below b420 (Nat.le_refl _)) (by simp only [maxLen]; omega) (by simp only [maxLen]; omega)).mono ?_
      rw [eqI_same]
      rintro e w21 ⟨rfl, hb21⟩
      have hG21 := hG20.next hb21
      have b21 := below_ext b20 hb21
      clear hG20 b20 b420 hb21
      go_wp2_with fail
      refine (heldIntS_any GA L.length gd 1 w21 hG21.1 (by omega) (by omega)).mono ?_
      rintro e w22 ⟨rfl, hb22⟩
      go_wp2_with fail
      go_ret
      exact ⟨rfl, below_ext b21 hb22⟩
end Go.Proofs.Yteldghgdpklkfaa
