/- The law FnExactPackMake, walked: for every slice of objects it answers true. -/
import Derived.Test.YtkekcgamhhmjnaaPkPackI
import Derived.Test.YtkekcgamhhmjnaaPkMark
import Derived.Test.YtkekcgamhhmjnaaMarkO
namespace Go.Proofs.Ytkekcgamhhmjnaa
open Go.RowKit Go.Sort

theorem packP_sz (os : List Ob) : szL szPe (packP os).1 ≤ 480 := by
  cases hp : packable os
  · rw [packP_no hp]
    simp [szL]
  · rw [packP_yes hp]
    have hp' := hp
    unfold packable at hp'
    rw [Bool.and_eq_true, decide_eq_true_eq, List.all_eq_true] at hp'
    have h1 := szL_le (sz := szPe) (xs := packTo os os.length) (M := 30) fun x hx => by
      obtain ⟨i, hi⟩ := List.mem_iff_getElem?.1 hx
      have hil : i < os.length := by
        have := (List.getElem?_eq_some_iff.1 hi).1
        rwa [packTo_len] at this
      rw [packTo_at os.length hil, show os.getD i ⟨0, [], ⟨#[]⟩⟩ = os[i] by simp [List.getD, List.getElem?_eq_getElem hil]] at hi
      injection hi with hi
      subst hi
      have hlen := (ObjOk.of (hp'.2 os[i] (List.getElem_mem hil))).len
      have hops := szL_le (sz := szDp) (xs := (bestTo os[i].t (os.map Ob.t) ((packTo os i).map Pe.b) i).2) (M := 3) fun _ _ => Nat.le_refl _
      have hl8 := bestTo_len (t := os[i].t) (ts := os.map Ob.t) (bs := (packTo os i).map Pe.b) i
      have hxs := szL_I os[i].xs
      unfold szPe
      simp only
      omega
    rw [packTo_len] at h1
    show szL szPe (packTo os os.length) ≤ 480
    omega
set_option maxRecDepth 100000 in
set_option maxHeartbeats 3200000 in
theorem FnExactPackMake_walk (A : Option Addr) (n c : Nat) (os : List Ob) (w : World) (hgl : Gl w) (h : RObjs w A n os) (hn : n ≤ maxLen) :
    Calls Try.prog 9 #[.slice A n c] w fun e w' => e = .returned (.bool true) ∧ Below w.heap.size w w' := by
  obtain ⟨ps, bb, HP⟩ : ∃ ps bb, Hid (packP os = (ps, bb)) := ⟨_, _, Lib.hid rfl⟩
  have hsz : szL szPe ps ≤ 480 := by have := packP_sz os; rw [HP.out] at this; exact this
  have bq : (bb != bb) = false := by cases bb <;> rfl
  go_enter Try.func9, Try.ntmps9
  go_wp2_with fail
  refine (szObjectS_any _ _ _ os _ w h hn (by omega) (by omega)).mono ?_
  rintro e w1 ⟨⟨v, rfl, r, rfl, hs⟩, hb1⟩
  rcases hs with hs | ⟨hs0, hsl, hsm⟩
  · go_wp2_with fail
    go_ret
    exact ⟨rfl, hb1⟩
  · have hn20 : n ≤ 1048576 := by have := hsm.1; have := h.1; omega
    have hs0b : decide (r < 0) = false := decide_eq_false (by omega)
    have HSM := Lib.hid hsm
    have HL := Lib.hid h.1.symm
    clear hsm
    go_wp2_with fail
    refine (toObjectS_any _ _ _ os _ (h.next hb1) HSM.out).mono ?_
    rintro e w2 ⟨bs2, rfl, ho2, hb2⟩
    have b2 := below_ext hb1 hb2
    go_wp2_with fail
    refine (specPackMake_any _ n n os w2 (ho2.reads HL.out HSM.out) hn).mono ?_
    unfold PackTo
    rw [HP.out]
    rintro e w3 ⟨A3, n3, c3, rfl, hS3, hb3⟩
    have b3 := below_ext b2 hb3
    have hz3 := hb3.size
    have hin3 : ∀ b, Iv w2.heap.size w3.heap.size b → b < w3.heap.size := fun b hb => hb.2
    clear ho2
    go_wp2_with fail
    refine (toObjectS_any _ _ _ os _ (h.next b3) HSM.out).mono ?_
    rintro e w4 ⟨bs4, rfl, ho4, hb4⟩
    have b4 := below_ext b3 hb4
    have hmk4 := ho4.mk HL.out HSM.out
    have hS34 := hS3.next hb4 hin3
    have hz4 := hb4.size
    go_wp2_with fail
    refine (implPackMake_any _ n n os w4 (ho4.reads HL.out HSM.out) hn (hgl.next b4)).mono ?_
    unfold PackTo
    rw [HP.out]
    rintro e w5 ⟨A5, n5, c5, rfl, hS5, hb5⟩
    have b5 := below_ext b4 hb5
    have hS35 := hS34.next hb5 (fun b hb => by have := hin3 b hb; omega)
    have hz5 := hb5.size
    have hin5 : ∀ b, Iv w4.heap.size w5.heap.size b → b < w5.heap.size := fun b hb => hb.2
    have hn5 : n5 ≤ maxLen := by have := hS5.small; omega
    have hmk5 := hmk4.next hb5
    have ho5 := ho4.next hb5
    clear hS3 hS34 hmk4 ho4
    go_wp2_with fail
    refine (eqPackEntryS_same A5 A3 n5 c5 n3 c3 ps w5 (hS5.reads.down (Nat.zero_le _)) (hS35.reads.down (Nat.zero_le _)) hn5).mono ?_
    rintro e w6 ⟨rfl, hb6⟩
    have b6 := below_ext b5 hb6
    have hS36 := hS35.next hb6 (fun b hb => by have := hin3 b hb; omega)
    have hS56 := hS5.next hb6 hin5
    have hz6 := hb6.size
    have hmk6 := hmk5.next hb6
    have ho6 := ho5.next hb6
    clear hS35 hS5 hmk5 ho5
    go_wp2_with fail
    refine (toObjectS_any _ _ _ os _ (h.next b6) HSM.out).mono ?_
    rintro e w7 ⟨bs7, rfl, ho7, hb7⟩
    have b7 := below_ext b6 hb7
    have hz7 := hb7.size
    go_wp2_with fail
    refine (eqObjectS_any _ _ _ _ _ _ os os _ ((ho6.next hb7).reads HL.out HSM.out) (ho7.reads HL.out HSM.out) hn hn).mono ?_
    rintro e w8 ⟨rfl, hb8⟩
    rw [eqOs_refl os]
    have b8 := below_ext b7 hb8
    have hz8 := hb8.size
    have hS38 := (hS36.next hb7 (fun b hb => by have := hin3 b hb; omega)).next hb8 (fun b hb => by have := hin3 b hb; omega)
    have hS58 := (hS56.next hb7 (fun b hb => by have := hin5 b hb; omega)).next hb8 (fun b hb => by have := hin5 b hb; omega)
    have hmk8 := (hmk6.next hb7).next hb8
    clear hS36 hS56 hmk6 ho6 ho7
    go_wp2_with fail
    refine (markObjectS_any w3.heap.size w4.heap.size _ n n 1 w8 hmk8 (by omega) (by omega)).mono ?_
    rintro e w9 ⟨r9, rfl, hr90, hr91, -, hmid9⟩
    have b9 : Below w.heap.size w w9 := b8.trans ⟨hmid9.os, hmid9.tape, hmid9.output, hmid9.size, fun i hi => hmid9.block i (by have := b8.size; omega) (Or.inl (by have := b3.size; omega))⟩
    have hz9 := hmid9.size
    have hS39 := hS38.kept (fun b hb => hmid9.block b (by have := hin3 b hb; omega) (Or.inl (hin3 b hb)))
    have hS59 := hS58.kept (fun b hb => hmid9.block b (by have := hin5 b hb; omega) (Or.inr hb.1))
    have hr9d : decide ((r9 : Int) < 0) = false := decide_eq_false (by omega)
    clear hS38 hS58 hmk8 hmid9
    go_wp2_with fail
    refine (eqPackEntryS_same A5 A3 n5 c5 n3 c3 ps w9 (hS59.reads.down (Nat.zero_le _)) (hS39.reads.down (Nat.zero_le _)) hn5).mono ?_
    rintro e w10 ⟨rfl, hb10⟩
    have b10 := below_ext b9 hb10
    have hz10 := hb10.size
    have hS310 := hS39.next hb10 (fun b hb => by have := hin3 b hb; omega)
    have hS510 := hS59.next hb10 (fun b hb => by have := hin5 b hb; omega)
    clear hS39 hS59
    go_wp2_with fail
    refine (markPackEntryS_s (Iv w4.heap.size w5.heap.size) w4.heap.size A5 n5 c5 ps 1 w10 hS510 (fun b hb => by have := hin5 b hb; omega) (by omega)).mono ?_
    rintro e w11 ⟨rfl, hM11, hO11⟩
    have b11 : Below w.heap.size w w11 := b10.trans (hO11.below (fun b hb => Nat.le_trans (by have := b4.size; omega : w.heap.size ≤ w4.heap.size) hb.1) (by have := b10.size; omega))
    have hz11 := hO11.size
    have hS311 := hS310.only hO11 (fun b h1 h2 => by have := hin3 b h1; have := h2.1; omega) (fun b hb => by have := hin3 b hb; omega)
    obtain ⟨K, HK⟩ : ∃ K : Nat, Hid (1 + szL szPe ps = K) := ⟨_, Lib.hid rfl⟩
    rw [HK.out]
    have hKpos : decide ((K : Int) < 0) = false := decide_eq_false (by omega)
    have hKne : ((K : Int) != (K : Int)) = false := by simp
    clear hS310 hS510 hO11
    go_wp2_with fail
    refine (heldPackEntryS_s A5 n5 c5 ps 1 w11 (hM11.reads.down (Nat.zero_le _)) hn5 (by omega)).mono ?_
    rw [HK.out]
    rintro e w12 ⟨rfl, hb12⟩
    have b12 := below_ext b11 hb12
    have hz12 := hb12.size
    have hS312 := hS311.next hb12 (fun b hb => by have := hin3 b hb; omega)
    have hM12 := hM11.next hb12 (fun b hb => by have := hin5 b hb; omega)
    clear hS311 hM11
    go_wp2_with fail
    refine (toObjectS_any _ _ _ os _ (h.next b12) HSM.out).mono ?_
    rintro e w13 ⟨bs13, rfl, ho13, hb13⟩
    have b13 := below_ext b12 hb13
    have hz13 := hb13.size
    go_wp2_with fail
    refine (implPackMake_any _ n n os w13 (ho13.reads HL.out HSM.out) hn (hgl.next b13)).mono ?_
    unfold PackTo
    rw [HP.out]
    rintro e w14 ⟨A14, n14, c14, rfl, hS14, hb14⟩
    have b14 := below_ext b13 hb14
    have hz14 := hb14.size
    have hn14 : n14 ≤ maxLen := by have := hS14.small; omega
    have hS314 := (hS312.next hb13 (fun b hb => by have := hin3 b hb; omega)).next hb14 (fun b hb => by have := hin3 b hb; omega)
    have hM14 := (hM12.next hb13 (fun b hb => by have := hin5 b hb; omega)).next hb14 (fun b hb => by have := hin5 b hb; omega)
    clear hS312 hM12 ho13
    go_wp2_with fail
    refine (eqPackEntryS_same A14 A3 n14 c14 n3 c3 ps w14 (hS14.reads.down (Nat.zero_le _)) (hS314.reads.down (Nat.zero_le _)) hn14).mono ?_
    rintro e w15 ⟨rfl, hb15⟩
    have b15 := below_ext b14 hb15
    have hM15 := hM14.next hb15 (fun b hb => by have := hin5 b hb; omega)
    clear hS14 hS314 hM14
    go_wp2_with fail
    refine (heldPackEntryS_s A5 n5 c5 ps 1 w15 (hM15.reads.down (Nat.zero_le _)) hn5 (by omega)).mono ?_
    rw [HK.out]
    rintro e w16 ⟨rfl, hb16⟩
    go_wp2_with fail
    go_ret
    exact ⟨rfl, below_ext b15 hb16⟩
end Go.Proofs.Ytkekcgamhhmjnaa
