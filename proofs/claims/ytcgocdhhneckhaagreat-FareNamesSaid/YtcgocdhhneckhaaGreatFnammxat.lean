/- Walks of package big: Of. -/
import Derived.Test.YtcgocdhhneckhaaGreatFnammxaq
import Derived.Deep.LoopGhost
namespace Go.Proofs.YtcgocdhhneckhaaGreat
open Go.RowKit
theorem digs_step {u : Nat} (h : 0 < u) : digs u = ((u % 1048576 : Nat) : Int) :: digs (u / 1048576) := digs_pos (by omega)
theorem pw4 : pw 4 = 1208925819614629174706176 := rfl
theorem digs_len_64 {u : Nat} (h : u < 18446744073709551616) : (digs u).length ≤ 4 := digs_len.2 (by rw [pw4]; omega)
set_option maxRecDepth 100000 in
set_option maxHeartbeats 1600000 in
theorem big_Of_neg (n : Int) (w : World) (h0 : -9223372036854775808 ≤ n) (h1 : n ≤ 9223372036854775807) (hn : n < 0) :
    Calls Tryz.prog 169 #[.int .i64 n] w fun e w' => BigP w w' (bigD n) e := by
  skip
  go_enter Tryz.func169, Tryz.ntmps169
  go_wp2_with fail
  have hu : ∃ u : Nat, (IntKind.u64.wrap (-IntKind.u64.wrap n)) = (u : Int) ∧ u = ((-n)).toNat ∧ u < 18446744073709551616 := ⟨((-n)).toNat, by first | omega | (simp only [IntKind.wrap_u64]; omega), rfl, by omega⟩
  obtain ⟨N, hN, hN1, hN2⟩ := hu
  rw [hN]
  have HN1 : Hid (N = ((-n)).natAbs) := Lib.hid (by omega)
  clear hN hN1
  have HB0 : Hid (Below w.heap.size w (w.alloc (.cells #[.int .i64 0, .slice none 0 0] 69))) := Lib.hid qbl
  have HBX : Hid (Blk (w.alloc (.cells #[.int .i64 0, .slice none 0 0] 69)) w.heap.size 69 #[.int .i64 0, .slice none 0 0]) := Lib.hid (Blk.new _ _ _)
  have hsz : (w.alloc (.cells #[.int .i64 0, .slice none 0 0] 69)).heap.size = w.heap.size + 1 := by simp
  have HSZ := Lib.hid hsz
  generalize w.alloc (.cells #[.int .i64 0, .slice none 0 0] 69) = w0 at *
  clear hsz
  go_loopg [4, 5] N (fun k p q wr => ∃ (xA : Option Addr) (xc : Nat) (xl : List Int), p = .int .u64 (k : Nat) ∧ q = .slice xA xl.length xc ∧ k < 18446744073709551616 ∧ Hid (digs N = xl ++ digs k) ∧ Hid (Own w0.heap.size 3 1 ienc wr ⟨xA, xc, xl⟩) ∧ Hid (Below w0.heap.size w0 wr))
  case atStart => exact ⟨none, 0, [], rfl, rfl, hN2, Lib.hid rfl, Lib.hid (Own.nil _ _ _ _ _), Lib.hid (Below.refl _ _)⟩
  case round =>
    obtain ⟨xA, xc, xl, rfl, rfl, hk, HD, HO, HBK⟩ := hrel
    have hxl : xl.length ≤ 4 := by
      have h := congrArg List.length HD.out
      have := digs_len_64 hN2
      rw [List.length_append] at h
      omega
    have hsz2 := HBK.out.size
    by_cases hk0 : gk = 0
    · subst hk0
      have HXL : Hid (xl = digs ((-n)).natAbs) := Lib.hid (by have h := HD.out; rw [digs_zero, List.append_nil] at h; rw [← h, HN1.out])
      clear HD
      go_wp2_with fail
      refine (big_signed (-1) ⟨xA, xc, xl⟩ _ HO.out.nw (fun _ h => h.lt)).mono ?_
      rintro e w4 ⟨⟨rs, ⟨rA, rc, rl⟩⟩, rfl, hrd, hrr, hb4⟩
      have FK4 := Lib.hid (HBK.out.trans (hb4.mono hsz2))
      have HRD := Lib.hid (hrd.trans (signed_is (z := n) (by rw [HXL.out]; exact (digs_norm _).ok) (by rw [HXL.out, digs_val] <;> omega) (fun h0 => by first | rw [Int.sign_eq_neg_one_of_neg hn] | rw [Int.sign_eq_one_of_pos (by omega)])))
      have HRR := Lib.hid hrr
      have hz4 := hb4.size
      have HBW := Lib.hid (HB0.out.trans (FK4.out.mono HB0.out.size))
      clear hrd hrr hb4
      have K_r : Blk _ (w.heap.size) 69 #[.int .i64 0, .slice none 0 0] := blk_later FK4.out (by simp [hp_past, hp_at, hp_other, hp_same, hp_drew, hp_drewN, HBX.out.eq, HBX.out.lt, hp_same HBX.out.eq])
      obtain ⟨r0, r1, rf, rz⟩ := Blk.b2 K_r
      have B_r := Lib.hid K_r
      clear K_r
      simp only [Big.v]
      go_wp2_with fail
      have hne : ∀ b, Nw w0.heap.size wr b → b ≠ w.heap.size := fun b hb => by have := hb.1; have := HSZ.out; omega
      have hle : w.heap.size ≤ w0.heap.size := by have := HSZ.out; omega
      try simp only [Exit.inBlock, Exit.then]
      refine bodyPost_ret (v := .agg #[.int .i64 rs, .slice rA rl.length rc]) ?_ rfl ⟨⟨rs, ⟨rA, rc, rl⟩⟩, rfl, HRD.out, ((HRR.out.far (fun b hb => hne b hb) _).far (fun b hb => hne b hb) _).mono (fun b hb => Nw.of (nw_two hb hle hz4)), below_two HBW.out⟩
      simp [results, Tryz.results169, go_sem, r0, r1]
    · have hks : digs gk = ((gk % 1048576 : Nat) : Int) :: digs (gk / 1048576) := digs_pos hk0
      have HKS := Lib.hid hks
      have hand := u64_mask20 (n := (gk : Int)) (by omega) (by omega)
      have hsh : (gk : Int) / 1048576 = ((gk / 1048576 : Nat) : Int) := by omega
      have hmd : (gk : Int) % 1048576 = ((gk % 1048576 : Nat) : Int) := by omega
      have hb1 : gk % 1048576 < 1048576 := Nat.mod_lt _ (by omega)
      rw [hmd] at hand
      clear hks hmd
      have HHS := Lib.hid hsh
      clear hsh
      generalize gk % 1048576 = dd at *
      go_wp2_with (at_builtin
                   go_must (refine wpl_append_sl _ rfl (.tmp 16) (.tmp 20) _ rfl Tryz.underlying60 infoInt (by omega) ienc_k ienc_one ⟨xA, xc, xl⟩ ⟨some ⟨wr.heap.size, 0, none⟩, 1, [(dd : Int)]⟩ rfl rfl (HO.out.alloc _) (OI.new wr [(dd : Int)] (by simp [maxLen])).rdlt (by simp [maxLen]; omega) (by simp; omega) (by simp; omega) ?_)
                   intro A2 c2 w3 hown hg _)
      have hown2 := hown
      go_roundg (gk / 1048576)
      case measure => exact Nat.div_lt_self (by omega) (by omega)
      case rel =>
        refine ⟨A2, c2, xl ++ [(dd : Int)], by rw [HHS.out], by simp, by omega, Lib.hid ?_, Lib.hid hown, Lib.hid ?_⟩
        · rw [HD.out, HKS.out]; simp
        · exact (HBK.out.alloc hsz2 _).grown hg (by simp; omega) (fun k hk => by have := World.ownsRow.lt HO.out k hk; omega)
set_option maxRecDepth 100000 in
set_option maxHeartbeats 1600000 in
theorem big_Of_pos (n : Int) (w : World) (h0 : -9223372036854775808 ≤ n) (h1 : n ≤ 9223372036854775807) (hn : ¬ n < 0) :
    Calls Tryz.prog 169 #[.int .i64 n] w fun e w' => BigP w w' (bigD n) e := by
  obtain ⟨n', rfl⟩ : ∃ n' : Nat, n = n' := ⟨n.toNat, by omega⟩
  go_enter Tryz.func169, Tryz.ntmps169
  go_wp2_with fail
  have hu : ∃ u : Nat, ((n' : Int)) = (u : Int) ∧ u = ((n' : Int)).toNat ∧ u < 18446744073709551616 := ⟨((n' : Int)).toNat, by first | omega | (simp only [IntKind.wrap_u64]; omega), rfl, by omega⟩
  obtain ⟨N, hN, hN1, hN2⟩ := hu
  rw [hN]
  have HN1 : Hid (N = ((n' : Int)).natAbs) := Lib.hid (by omega)
  clear hN hN1
  have HB0 : Hid (Below w.heap.size w (w.alloc (.cells #[.int .i64 0, .slice none 0 0] 69))) := Lib.hid qbl
  have HBX : Hid (Blk (w.alloc (.cells #[.int .i64 0, .slice none 0 0] 69)) w.heap.size 69 #[.int .i64 0, .slice none 0 0]) := Lib.hid (Blk.new _ _ _)
  have hsz : (w.alloc (.cells #[.int .i64 0, .slice none 0 0] 69)).heap.size = w.heap.size + 1 := by simp
  have HSZ := Lib.hid hsz
  generalize w.alloc (.cells #[.int .i64 0, .slice none 0 0] 69) = w0 at *
  clear hsz
  go_loopg [4, 5] N (fun k p q wr => ∃ (xA : Option Addr) (xc : Nat) (xl : List Int), p = .int .u64 (k : Nat) ∧ q = .slice xA xl.length xc ∧ k < 18446744073709551616 ∧ Hid (digs N = xl ++ digs k) ∧ Hid (Own w0.heap.size 3 1 ienc wr ⟨xA, xc, xl⟩) ∧ Hid (Below w0.heap.size w0 wr))
  case atStart => exact ⟨none, 0, [], rfl, rfl, hN2, Lib.hid rfl, Lib.hid (Own.nil _ _ _ _ _), Lib.hid (Below.refl _ _)⟩
  case round =>
    obtain ⟨xA, xc, xl, rfl, rfl, hk, HD, HO, HBK⟩ := hrel
    have hxl : xl.length ≤ 4 := by
      have h := congrArg List.length HD.out
      have := digs_len_64 hN2
      rw [List.length_append] at h
      omega
    have hsz2 := HBK.out.size
    by_cases hk0 : gk = 0
    · subst hk0
      have HXL : Hid (xl = digs ((n' : Int)).natAbs) := Lib.hid (by have h := HD.out; rw [digs_zero, List.append_nil] at h; rw [← h, HN1.out])
      clear HD
      go_wp2_with fail
      refine (big_signed 1 ⟨xA, xc, xl⟩ _ HO.out.nw (fun _ h => h.lt)).mono ?_
      rintro e w4 ⟨⟨rs, ⟨rA, rc, rl⟩⟩, rfl, hrd, hrr, hb4⟩
      have FK4 := Lib.hid (HBK.out.trans (hb4.mono hsz2))
      have HRD := Lib.hid (hrd.trans (signed_is (z := (n' : Int)) (by rw [HXL.out]; exact (digs_norm _).ok) (by rw [HXL.out, digs_val] <;> omega) (fun h0 => by first | rw [Int.sign_eq_neg_one_of_neg hn] | rw [Int.sign_eq_one_of_pos (by omega)])))
      have HRR := Lib.hid hrr
      have hz4 := hb4.size
      have HBW := Lib.hid (HB0.out.trans (FK4.out.mono HB0.out.size))
      clear hrd hrr hb4
      have K_r : Blk _ (w.heap.size) 69 #[.int .i64 0, .slice none 0 0] := blk_later FK4.out (by simp [hp_past, hp_at, hp_other, hp_same, hp_drew, hp_drewN, HBX.out.eq, HBX.out.lt, hp_same HBX.out.eq])
      obtain ⟨r0, r1, rf, rz⟩ := Blk.b2 K_r
      have B_r := Lib.hid K_r
      clear K_r
      simp only [Big.v]
      go_wp2_with fail
      have hne : ∀ b, Nw w0.heap.size wr b → b ≠ w.heap.size := fun b hb => by have := hb.1; have := HSZ.out; omega
      have hle : w.heap.size ≤ w0.heap.size := by have := HSZ.out; omega
      try simp only [Exit.inBlock, Exit.then]
      refine bodyPost_ret (v := .agg #[.int .i64 rs, .slice rA rl.length rc]) ?_ rfl ⟨⟨rs, ⟨rA, rc, rl⟩⟩, rfl, HRD.out, ((HRR.out.far (fun b hb => hne b hb) _).far (fun b hb => hne b hb) _).mono (fun b hb => Nw.of (nw_two hb hle hz4)), below_two HBW.out⟩
      simp [results, Tryz.results169, go_sem, r0, r1]
    · have hks : digs gk = ((gk % 1048576 : Nat) : Int) :: digs (gk / 1048576) := digs_pos hk0
      have HKS := Lib.hid hks
      have hand := u64_mask20 (n := (gk : Int)) (by omega) (by omega)
      have hsh : (gk : Int) / 1048576 = ((gk / 1048576 : Nat) : Int) := by omega
      have hmd : (gk : Int) % 1048576 = ((gk % 1048576 : Nat) : Int) := by omega
      have hb1 : gk % 1048576 < 1048576 := Nat.mod_lt _ (by omega)
      rw [hmd] at hand
      clear hks hmd
      have HHS := Lib.hid hsh
      clear hsh
      generalize gk % 1048576 = dd at *
      go_wp2_with (at_builtin
                   go_must (refine wpl_append_sl _ rfl (.tmp 16) (.tmp 20) _ rfl Tryz.underlying60 infoInt (by omega) ienc_k ienc_one ⟨xA, xc, xl⟩ ⟨some ⟨wr.heap.size, 0, none⟩, 1, [(dd : Int)]⟩ rfl rfl (HO.out.alloc _) (OI.new wr [(dd : Int)] (by simp [maxLen])).rdlt (by simp [maxLen]; omega) (by simp; omega) (by simp; omega) ?_)
                   intro A2 c2 w3 hown hg _)
      have hown2 := hown
      go_roundg (gk / 1048576)
      case measure => exact Nat.div_lt_self (by omega) (by omega)
      case rel =>
        refine ⟨A2, c2, xl ++ [(dd : Int)], by rw [HHS.out], by simp, by omega, Lib.hid ?_, Lib.hid hown, Lib.hid ?_⟩
        · rw [HD.out, HKS.out]; simp
        · exact (HBK.out.alloc hsz2 _).grown hg (by simp; omega) (fun k hk => by have := World.ownsRow.lt HO.out k hk; omega)
theorem big_Of (n : Int) (w : World) (h0 : -9223372036854775808 ≤ n) (h1 : n ≤ 9223372036854775807) :
    Calls Tryz.prog 169 #[.int .i64 n] w fun e w' => BigP w w' (bigD n) e := by
  by_cases hn : n < 0
  · exact big_Of_neg n w h0 h1 hn
  · exact big_Of_pos n w h0 h1 hn
end Go.Proofs.YtcgocdhhneckhaaGreat
/- Walks: big.Int and frac.one, at 1. -/
namespace Go.Proofs.YtcgocdhhneckhaaGreat
open Go.RowKit
theorem bigD_one : bigD 1 = ⟨1, [1]⟩ := by unfold bigD; simp [digs_pos, digs_zero]
theorem fits_one : Fits 1 := by unfold Fits; decide
set_option maxRecDepth 100000 in
set_option maxHeartbeats 1600000 in
theorem big_Int_one (a : Big) (w : World) (ha : RB w a 1) :
    Calls Tryz.prog 181 #[a.v] w fun e w' => e = .returned (.tuple #[.int .i64 1, .bool true]) ∧ Below w.heap.size w w' := by
  have hd := ha.d
  rw [bigD_one] at hd
  obtain ⟨s, ⟨A, c, l⟩⟩ := a
  unfold Big.d at hd
  injection hd with h1 h2
  simp only at h1 h2
  subst h1 h2
  have HA := Lib.hid ha
  clear ha
  simp only [Big.v]
  go_enter Tryz.func181, Tryz.ntmps181
  go_wp2_with fail
  refine (right_ok ⟨1, ⟨A, c, [1]⟩⟩ 1 _ (HA.out.later qbl)).mono ?_
  rintro e w1 ⟨rfl, hb1⟩
  have K_a : Blk _ (w.heap.size) 69 #[.int .i64 1, .slice A [(1 : Int)].length c] := qkb hb1
  obtain ⟨a0, a1, af, az⟩ := Blk.b2 K_a
  have B_a := Lib.hid K_a
  clear K_a
  have hB1 : Below w.heap.size w w1 := qbv
  obtain ⟨b, o, hA, _, c0⟩ := (HA.out.later hB1).rd.geti (show 0 < [(1 : Int)].length by simp)
  simp only [List.getElem_cons_zero, Nat.add_zero] at hA c0
  subst hA
  clear hb1
  go_wp2_with fail
  go_loopw [19, 4] (fun v u wr => ((v = .int .i64 0 ∧ u = .int .u64 0) ∨ (v = .int .i64 1 ∧ u = .int .u64 1)) ∧ w1 = wr) (fun v _ _ => 1 - (intOf v).toNat)
  case atStart => exact ⟨.inl ⟨rfl, rfl⟩, rfl⟩
  case round =>
    obtain ⟨(⟨rfl, rfl⟩ | ⟨rfl, rfl⟩), rfl⟩ := hrel
    · have hor : bits .or .u64 0 1 = 1 := by decide
      go_wp2_with fail
      go_roundw
      case rel => exact ⟨.inr ⟨rfl, rfl⟩, trivial⟩
      case measure => simp [intOf]
    · go_wp2_with fail
      try simp only [Exit.inBlock, Exit.then]
      refine bodyPost_ret (v := .tuple #[.int .i64 1, .bool true]) ?_ rfl ⟨rfl, hB1⟩
      simp [results, Tryz.results181, go_sem, ]
set_option maxHeartbeats 1600000 in
theorem frac_one (a : Big) (w : World) (ha : RB w a 1) : Calls Tryz.prog 161 #[a.v] w fun e w' => e = .returned (.bool true) ∧ Below w.heap.size w w' := by
  have HA := Lib.hid ha
  clear ha
  simp only [Big.v]
  go_enter Tryz.func161, Tryz.ntmps161
  go_wp2_with fail
  refine (big_Int_one a _ (HA.out.later qbl)).mono ?_
  rintro e w1 ⟨rfl, hb1⟩
  have hB1 : Below w.heap.size w w1 := qbv
  clear hb1
  go_wp2_with fail
  go_ret
  exact ⟨rfl, hB1⟩
end Go.Proofs.YtcgocdhhneckhaaGreat
