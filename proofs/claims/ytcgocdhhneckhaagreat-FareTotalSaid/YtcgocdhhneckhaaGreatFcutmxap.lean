/- Bits of numbers, as the digits need them. -/
import Derived.Test.YtcgocdhhneckhaaGreatFcutmxao
import Derived.Laws.Bits128
import Derived.Laws.BitsAllLaws
namespace Go.Proofs.YtcgocdhhneckhaaGreat
theorem i64_mask20 (n : Int) : bits .and .i64 n 1048575 = n % 1048576 := by
  have h1 : (BitVec.ofInt 64 1048575).toNat = 2 ^ 20 - 1 := by decide
  have key : (BitVec.ofInt 64 n &&& BitVec.ofInt 64 1048575).toNat = (n % ((2 ^ 64 : Nat) : Int)).toNat % 2 ^ 20 := by
    rw [BitVec.toNat_and, BitVec.toNat_ofInt, h1, Nat.and_two_pow_sub_one_eq_mod]
  show IntKind.i64.wrap ((BitVec.ofInt 64 n &&& BitVec.ofInt 64 1048575).toNat : Nat) = n % 1048576
  rw [key, IntKind.wrap_i64]
  omega
theorem i64_mask1 (n : Int) : bits .and .i64 n 1 = n % 2 := by
  have h1 : (BitVec.ofInt 64 1).toNat = 2 ^ 1 - 1 := by decide
  have key : (BitVec.ofInt 64 n &&& BitVec.ofInt 64 1).toNat = (n % ((2 ^ 64 : Nat) : Int)).toNat % 2 ^ 1 := by
    rw [BitVec.toNat_and, BitVec.toNat_ofInt, h1, Nat.and_two_pow_sub_one_eq_mod]
  show IntKind.i64.wrap ((BitVec.ofInt 64 n &&& BitVec.ofInt 64 1).toNat : Nat) = n % 2
  rw [key, IntKind.wrap_i64]
  omega
theorem u64_mask20 {n : Int} (h0 : 0 ≤ n) (h1 : n < 18446744073709551616) : bits .and .u64 n 1048575 = n % 1048576 := by
  rw [u64_and n 1048575 h0 h1 (by decide) (by decide), show (1048575 : Int).toNat = 1048575 from rfl, nat_mask20]
  omega
theorem i64_join20 {r x : Int} (hr : 0 ≤ r) (hr1 : r < 4398046511104) (hx : 0 ≤ x) (hx1 : x < 1048576) : bits .or .i64 (r * 1048576) x = r * 1048576 + x :=
  bits_join .i64 63 (by decide) (fun n h0 h1 => by rw [IntKind.wrap_i64]; omega) 20 _ _ (by omega) (by omega) (by omega) hx (by omega) (by omega)
/-- A digit above others that are less than its place. -/
theorem u64_joinp {u d : Int} {k : Nat} (hu : 0 ≤ u) (hk : u < 2 ^ k) (hd : 0 ≤ d) (hs : u + d * 2 ^ k < 18446744073709551616) : bits .or .u64 u (d * 2 ^ k) = u + d * 2 ^ k := by
  have hp : (0 : Int) < 2 ^ k := Int.pow_pos (by omega)
  have hdp : 0 ≤ d * 2 ^ k := Int.mul_nonneg hd (by omega)
  rw [u64_or u (d * 2 ^ k) hu (by omega) hdp (by omega)]
  obtain ⟨a, rfl⟩ := Int.eq_ofNat_of_zero_le hu
  obtain ⟨b, rfl⟩ := Int.eq_ofNat_of_zero_le hd
  have ha : a < 2 ^ k := by exact_mod_cast hk
  have e : ((b : Int) * 2 ^ k) = ((b * 2 ^ k : Nat) : Int) := by push_cast; rfl
  rw [e, Int.toNat_natCast, Int.toNat_natCast, ← Nat.shiftLeft_eq, or_shift ha, Nat.shiftLeft_eq]
  push_cast; rfl
end Go.Proofs.YtcgocdhhneckhaaGreat
/- Walks of package big: add. -/
namespace Go.Proofs.YtcgocdhhneckhaaGreat
open Go.RowKit
theorem set_mid {done rest : List Int} {z x : Int} : (done ++ z :: rest).set done.length x = done ++ x :: rest := by
  rw [List.set_append_right _ _ (Nat.le_refl _)]; simp
/-- What big.add has before place i: the longer one first. -/
structure AddS (a b : List Int) (i : Nat) (c : Int) (dn : List Int) : Prop where
  len : dn.length = i
  eq : addC 0 a b = dn ++ addC c (a.drop i) (b.drop i)
  c0 : 0 ≤ c
  c1 : c ≤ 1
theorem AddS.start (a b : List Int) : AddS a b 0 0 [] := ⟨rfl, rfl, by omega, by omega⟩
theorem headD_drop {b : List Int} {i : Nat} : (b.drop i).headD 0 = if h : i < b.length then b[i] else 0 := by
  split
  · rename_i h; rw [List.drop_eq_getElem_cons h]; rfl
  · rename_i h; rw [List.drop_eq_nil_of_le (by omega)]; rfl
theorem AddS.next {a b dn : List Int} {i : Nat} {c n : Int} (h : AddS a b i c dn) (ha : DigOK a) (hb : DigOK b) (hi : i < a.length) (hn : n = c + a[i] + (b.drop i).headD 0) : AddS a b (i + 1) (n / 1048576) (dn ++ [n % 1048576]) ∧ 0 ≤ n ∧ n < 2097152 := by
  have h1 := ha.get hi
  have h2 := digOK_head (hb.drop i)
  have h3 := h.c0
  have h4 := h.c1
  refine ⟨⟨by rw [List.length_append, h.len]; rfl, ?_, by omega, by omega⟩, by omega, by omega⟩
  rw [h.eq, List.drop_eq_getElem_cons hi, addC, ← hn, List.tail_drop]
  simp
theorem AddS.done {a b dn : List Int} {c : Int} (h : AddS a b a.length c dn) : dn ++ [c] = addC 0 a b := by
  rw [h.eq, List.drop_length]; rfl
theorem AddS.zeros {a b dn : List Int} {i : Nat} {c x : Int} (h : AddS a b i c dn) {n : Nat} : (dn ++ List.replicate (n + 1) 0).set i x = (dn ++ [x]) ++ List.replicate n 0 := by
  rw [← h.len, List.replicate_succ, set_mid]; simp
theorem addC_trim {a b : List Int} (ha : DigOK a) (hb : DigOK b) (h : b.length ≤ a.length) {n : Nat} (hn : val a + val b = n) : trimL (addC 0 a b) = digs n := by
  rw [trimL_is (addC_ok ha hb (by omega) (by omega)), addC_val h]
  congr 1
  omega
theorem trim_oi {B g c : Nat} {L : List Int} (w : World) (h : OI B w g c L) {n : Nat} (hn : n = L.length) :
    Calls Tryz.prog 183 #[.slice (some ⟨g, 0, none⟩) n c] w fun e w' => e = .returned (.slice (some ⟨g, 0, none⟩) (trimL L).length c) ∧ w = w' := by
  subst hn
  exact big_trim ⟨some ⟨g, 0, none⟩, c, L⟩ w h.rd
theorem SlP.trim {B g c : Nat} {L : List Int} {w w' : World} (h : OI B w' g c L) (hg : w.heap.size ≤ B) (hb : Below w.heap.size w w') : SlP w w' (trimL L) (.returned (.slice (some ⟨g, 0, none⟩) (trimL L).length c)) := by
  have ho := Own.takeN h (trimL L).length
  rw [← trimL_take] at ho
  exact ⟨⟨some ⟨g, 0, none⟩, c, trimL L⟩, rfl, rfl, ho.mono hg, hb⟩
set_option maxHeartbeats 800000 in
theorem big_add1 (a b : Sl Int) (w : World) (ha : Rd (· < w.heap.size) 1 ienc w a) (hb : Rd (· < w.heap.size) 1 ienc w b) (na : DigOK a.l) (nb : DigOK b.l) (hl1 : a.l.length ≤ 200) (hlb : b.l.length ≤ a.l.length) :
    Calls Tryz.prog 164 #[a.v, b.v] w fun e w' => SlP w w' (trimL (addC 0 a.l b.l)) e := by
  obtain ⟨A, c, l⟩ := a
  obtain ⟨B, d, m⟩ := b
  have hl := ha.len
  have hm := hb.len
  simp only at hl hm hl1 hlb
  have HA := Lib.hid ha
  have HB := Lib.hid hb
  have NA := Lib.hid na
  have NB := Lib.hid nb
  clear ha hb na nb
  simp only [Sl.v]
  have hmk : ∀ W : World, (Instr.makeSlice 60 (.int .i64 ((l.length : Int) + 1)) (.int .i64 ((l.length : Int) + 1))).run Tryz.prog W = .ok (.slice (some ⟨W.heap.size, 0, none⟩) (l.length + 1) (l.length + 1)) (W.alloc (.cells (ints (List.replicate (l.length + 1) 0)) 3)) := fun W => by
    have h := make_ints (l.length + 1) (by omega) W
    rw [show ((l.length + 1 : Nat) : Int) = (l.length : Int) + 1 by omega] at h
    exact h
  go_enter Tryz.func164, Tryz.ntmps164
  go_wp2_with fail
  clear hmk
  have hO : OI w.heap.size (w.alloc (.cells (ints (List.replicate (l.length + 1) 0)) 3)) w.heap.size (l.length + 1) (List.replicate (l.length + 1) 0) := by
    have h := OI.new w (List.replicate (l.length + 1) 0) (by rw [List.length_replicate]; unfold maxLen; omega)
    rwa [List.length_replicate] at h
  have HO := Lib.hid hO
  clear hO
  have HB0 : Hid (Below w.heap.size w (w.alloc (.cells (ints (List.replicate (l.length + 1) 0)) 3))) := Lib.hid (by repeat (first | (with_reducible exact Below.refl _ _) | ((with_reducible refine below_setr ?_ ?_); focus (first | (simp; done) | (simp; omega) | omega)) | ((with_reducible refine below_allocr ?_ ?_); focus (first | (simp; done) | (simp; omega) | omega)) | (with_reducible refine Below.drew ?_) | (with_reducible refine below_drewN ?_ _)))
  generalize w.alloc (.cells (ints (List.replicate (l.length + 1) 0)) 3) = w0 at *
  go_loopw [22, 6] (fun v u wr => ∃ (k : Nat) (cr : Int) (dn : List Int), k ≤ l.length ∧ v = .int .i64 k ∧ u = .int .i64 cr ∧ 0 ≤ cr ∧ cr ≤ 1 ∧ Hid (AddS l m k cr dn) ∧ Hid (OI w.heap.size wr w.heap.size (l.length + 1) (dn ++ List.replicate (l.length + 1 - k) 0)) ∧ Below w.heap.size w wr) (fun v _ _ => l.length - (intOf v).toNat)
  case atStart => exact ⟨0, 0, [], by omega, rfl, rfl, by omega, by omega, Lib.hid (AddS.start l m), HO, HB0.out⟩
  case round =>
    obtain ⟨k, cr, dn, hk, rfl, rfl, hc0, hc1, HS, HP, hbel⟩ := hrel
    by_cases hkl : k < l.length
    · obtain ⟨b1, o1, hA, _, c0⟩ := (HA.out.later hbel).geti hkl
      simp only at hA c0
      subst hA
      have hx := NA.out.get hkl
      have hnx := fun n hn => HS.out.next (n := n) NA.out NB.out hkl hn
      rw [headD_drop] at hnx
      generalize l[k] = x at *
      obtain ⟨q, hq⟩ : ∃ q, q = l.length - k := ⟨_, rfl⟩
      have hof := HP.out.frozen k
      have hsz := HP.out.lt
      have hol : k < (dn ++ List.replicate (l.length + 1 - k) 0).length := by rw [List.length_append, List.length_replicate, HS.out.len]; omega
      have hset := fun x => HP.out.set hol x
      rw [show l.length + 1 - k = (l.length - k) + 1 by omega] at hset
      simp only [HS.out.zeros] at hset
      obtain ⟨z, hoc⟩ : ∃ z, wr.cell? ⟨w.heap.size, k, none⟩ = some (.int .i64 z) := ⟨_, HP.out.cell hol⟩
      have HST := Lib.hid hset
      clear hset hol
      by_cases hkm : k < m.length
      · obtain ⟨b2, o2, hB, _, c1⟩ := (HB.out.later hbel).geti hkm
        simp only at hB c1
        subst hB
        have hy := NB.out.get hkm
        rw [dif_pos hkm] at hnx
        generalize m[k] = y at *
        have HNX := Lib.hid hnx
        clear hnx
        have hn := (HNX.out (cr + x + y) rfl).2
        clear HA HB
        go_wp2_with fail
        go_roundw
        case rel => exact ⟨k + 1, _, _, by omega, by go_num, rfl, by omega, by omega, (HNX.out (cr + x + y) rfl).1 |> Lib.hid, Lib.hid (by rw [i64_mask20, show l.length + 1 - (k + 1) = l.length - k by omega]; exact HST.out _), (by repeat (first | (with_reducible exact hbel) | (with_reducible exact Below.refl _ _) | ((with_reducible refine below_setr ?_ ?_); focus (first | (simp; done) | (simp; omega) | omega)) | ((with_reducible refine below_allocr ?_ ?_); focus (first | (simp; done) | (simp; omega) | omega)) | (with_reducible refine Below.drew ?_) | (with_reducible refine below_drewN ?_ _)))⟩
        case measure => simp [intOf]; omega
      · rw [dif_neg hkm] at hnx
        have HNX := Lib.hid hnx
        clear hnx
        have hn := (HNX.out (cr + x) (by omega)).2
        clear HA HB
        go_wp2_with fail
        go_roundw
        case rel => exact ⟨k + 1, _, _, by omega, by go_num, rfl, by omega, by omega, (HNX.out (cr + x) (by omega)).1 |> Lib.hid, Lib.hid (by rw [i64_mask20, show l.length + 1 - (k + 1) = l.length - k by omega]; exact HST.out _), (by repeat (first | (with_reducible exact hbel) | (with_reducible exact Below.refl _ _) | ((with_reducible refine below_setr ?_ ?_); focus (first | (simp; done) | (simp; omega) | omega)) | ((with_reducible refine below_allocr ?_ ?_); focus (first | (simp; done) | (simp; omega) | omega)) | (with_reducible refine Below.drew ?_) | (with_reducible refine below_drewN ?_ _)))⟩
        case measure => simp [intOf]; omega
    · obtain rfl : k = l.length := by omega
      have hof := HP.out.frozen l.length
      have hsz := HP.out.lt
      have hol : l.length < (dn ++ List.replicate (l.length + 1 - l.length) 0).length := by rw [List.length_append, List.length_replicate, HS.out.len]; omega
      have hset := HP.out.set hol cr
      rw [show l.length + 1 - l.length = 0 + 1 by omega, HS.out.zeros, List.replicate_zero, List.append_nil, HS.out.done] at hset
      obtain ⟨z, hoc⟩ : ∃ z, wr.cell? ⟨w.heap.size, l.length, none⟩ = some (.int .i64 z) := ⟨_, HP.out.cell hol⟩
      have HST := Lib.hid hset
      have hcl : (addC 0 l m).length = l.length + 1 := addC_len 0 l m
      have HCL := Lib.hid hcl
      clear hset hol hcl hkl hk
      go_wp2_with fail
      refine (trim_oi _ HST.out HCL.out.symm).mono ?_
      rintro e w' ⟨rfl, rfl⟩
      go_wp2_with fail
      go_ret
      exact SlP.trim HST.out (Nat.le_refl _) (by repeat (first | (with_reducible exact hbel) | (with_reducible exact Below.refl _ _) | ((with_reducible refine below_setr ?_ ?_); focus (first | (simp; done) | (simp; omega) | omega)) | ((with_reducible refine below_allocr ?_ ?_); focus (first | (simp; done) | (simp; omega) | omega)) | (with_reducible refine Below.drew ?_) | (with_reducible refine below_drewN ?_ _)))
set_option maxHeartbeats 800000 in
theorem big_add2 (a b : Sl Int) (w : World) (ha : Rd (· < w.heap.size) 1 ienc w a) (hb : Rd (· < w.heap.size) 1 ienc w b) (na : DigOK a.l) (nb : DigOK b.l) (hl1 : b.l.length ≤ 200) (hlb : a.l.length < b.l.length) :
    Calls Tryz.prog 164 #[a.v, b.v] w fun e w' => SlP w w' (trimL (addC 0 b.l a.l)) e := by
  obtain ⟨A, c, l⟩ := b
  obtain ⟨B, d, m⟩ := a
  have hl := hb.len
  have hm := ha.len
  simp only at hl hm hl1 hlb
  have HA := Lib.hid hb
  have HB := Lib.hid ha
  have NA := Lib.hid nb
  have NB := Lib.hid na
  clear ha hb na nb
  simp only [Sl.v]
  have hmk : ∀ W : World, (Instr.makeSlice 60 (.int .i64 ((l.length : Int) + 1)) (.int .i64 ((l.length : Int) + 1))).run Tryz.prog W = .ok (.slice (some ⟨W.heap.size, 0, none⟩) (l.length + 1) (l.length + 1)) (W.alloc (.cells (ints (List.replicate (l.length + 1) 0)) 3)) := fun W => by
    have h := make_ints (l.length + 1) (by omega) W
    rw [show ((l.length + 1 : Nat) : Int) = (l.length : Int) + 1 by omega] at h
    exact h
  go_enter Tryz.func164, Tryz.ntmps164
  go_wp2_with fail
  clear hmk
  have hO : OI w.heap.size (w.alloc (.cells (ints (List.replicate (l.length + 1) 0)) 3)) w.heap.size (l.length + 1) (List.replicate (l.length + 1) 0) := by
    have h := OI.new w (List.replicate (l.length + 1) 0) (by rw [List.length_replicate]; unfold maxLen; omega)
    rwa [List.length_replicate] at h
  have HO := Lib.hid hO
  clear hO
  have HB0 : Hid (Below w.heap.size w (w.alloc (.cells (ints (List.replicate (l.length + 1) 0)) 3))) := Lib.hid (by repeat (first | (with_reducible exact Below.refl _ _) | ((with_reducible refine below_setr ?_ ?_); focus (first | (simp; done) | (simp; omega) | omega)) | ((with_reducible refine below_allocr ?_ ?_); focus (first | (simp; done) | (simp; omega) | omega)) | (with_reducible refine Below.drew ?_) | (with_reducible refine below_drewN ?_ _)))
  generalize w.alloc (.cells (ints (List.replicate (l.length + 1) 0)) 3) = w0 at *
  go_loopw [22, 6] (fun v u wr => ∃ (k : Nat) (cr : Int) (dn : List Int), k ≤ l.length ∧ v = .int .i64 k ∧ u = .int .i64 cr ∧ 0 ≤ cr ∧ cr ≤ 1 ∧ Hid (AddS l m k cr dn) ∧ Hid (OI w.heap.size wr w.heap.size (l.length + 1) (dn ++ List.replicate (l.length + 1 - k) 0)) ∧ Below w.heap.size w wr) (fun v _ _ => l.length - (intOf v).toNat)
  case atStart => exact ⟨0, 0, [], by omega, rfl, rfl, by omega, by omega, Lib.hid (AddS.start l m), HO, HB0.out⟩
  case round =>
    obtain ⟨k, cr, dn, hk, rfl, rfl, hc0, hc1, HS, HP, hbel⟩ := hrel
    by_cases hkl : k < l.length
    · obtain ⟨b1, o1, hA, _, c0⟩ := (HA.out.later hbel).geti hkl
      simp only at hA c0
      subst hA
      have hx := NA.out.get hkl
      have hnx := fun n hn => HS.out.next (n := n) NA.out NB.out hkl hn
      rw [headD_drop] at hnx
      generalize l[k] = x at *
      obtain ⟨q, hq⟩ : ∃ q, q = l.length - k := ⟨_, rfl⟩
      have hof := HP.out.frozen k
      have hsz := HP.out.lt
      have hol : k < (dn ++ List.replicate (l.length + 1 - k) 0).length := by rw [List.length_append, List.length_replicate, HS.out.len]; omega
      have hset := fun x => HP.out.set hol x
      rw [show l.length + 1 - k = (l.length - k) + 1 by omega] at hset
      simp only [HS.out.zeros] at hset
      obtain ⟨z, hoc⟩ : ∃ z, wr.cell? ⟨w.heap.size, k, none⟩ = some (.int .i64 z) := ⟨_, HP.out.cell hol⟩
      have HST := Lib.hid hset
      clear hset hol
      by_cases hkm : k < m.length
      · obtain ⟨b2, o2, hB, _, c1⟩ := (HB.out.later hbel).geti hkm
        simp only at hB c1
        subst hB
        have hy := NB.out.get hkm
        rw [dif_pos hkm] at hnx
        generalize m[k] = y at *
        have HNX := Lib.hid hnx
        clear hnx
        have hn := (HNX.out (cr + x + y) rfl).2
        clear HA HB
        go_wp2_with fail
        go_roundw
        case rel => exact ⟨k + 1, _, _, by omega, by go_num, rfl, by omega, by omega, (HNX.out (cr + x + y) rfl).1 |> Lib.hid, Lib.hid (by rw [i64_mask20, show l.length + 1 - (k + 1) = l.length - k by omega]; exact HST.out _), (by repeat (first | (with_reducible exact hbel) | (with_reducible exact Below.refl _ _) | ((with_reducible refine below_setr ?_ ?_); focus (first | (simp; done) | (simp; omega) | omega)) | ((with_reducible refine below_allocr ?_ ?_); focus (first | (simp; done) | (simp; omega) | omega)) | (with_reducible refine Below.drew ?_) | (with_reducible refine below_drewN ?_ _)))⟩
        case measure => simp [intOf]; omega
      · rw [dif_neg hkm] at hnx
        have HNX := Lib.hid hnx
        clear hnx
        have hn := (HNX.out (cr + x) (by omega)).2
        clear HA HB
        go_wp2_with fail
        go_roundw
        case rel => exact ⟨k + 1, _, _, by omega, by go_num, rfl, by omega, by omega, (HNX.out (cr + x) (by omega)).1 |> Lib.hid, Lib.hid (by rw [i64_mask20, show l.length + 1 - (k + 1) = l.length - k by omega]; exact HST.out _), (by repeat (first | (with_reducible exact hbel) | (with_reducible exact Below.refl _ _) | ((with_reducible refine below_setr ?_ ?_); focus (first | (simp; done) | (simp; omega) | omega)) | ((with_reducible refine below_allocr ?_ ?_); focus (first | (simp; done) | (simp; omega) | omega)) | (with_reducible refine Below.drew ?_) | (with_reducible refine below_drewN ?_ _)))⟩
        case measure => simp [intOf]; omega
    · obtain rfl : k = l.length := by omega
      have hof := HP.out.frozen l.length
      have hsz := HP.out.lt
      have hol : l.length < (dn ++ List.replicate (l.length + 1 - l.length) 0).length := by rw [List.length_append, List.length_replicate, HS.out.len]; omega
      have hset := HP.out.set hol cr
      rw [show l.length + 1 - l.length = 0 + 1 by omega, HS.out.zeros, List.replicate_zero, List.append_nil, HS.out.done] at hset
      obtain ⟨z, hoc⟩ : ∃ z, wr.cell? ⟨w.heap.size, l.length, none⟩ = some (.int .i64 z) := ⟨_, HP.out.cell hol⟩
      have HST := Lib.hid hset
      have hcl : (addC 0 l m).length = l.length + 1 := addC_len 0 l m
      have HCL := Lib.hid hcl
      clear hset hol hcl hkl hk
      go_wp2_with fail
      refine (trim_oi _ HST.out HCL.out.symm).mono ?_
      rintro e w' ⟨rfl, rfl⟩
      go_wp2_with fail
      go_ret
      exact SlP.trim HST.out (Nat.le_refl _) (by repeat (first | (with_reducible exact hbel) | (with_reducible exact Below.refl _ _) | ((with_reducible refine below_setr ?_ ?_); focus (first | (simp; done) | (simp; omega) | omega)) | ((with_reducible refine below_allocr ?_ ?_); focus (first | (simp; done) | (simp; omega) | omega)) | (with_reducible refine Below.drew ?_) | (with_reducible refine below_drewN ?_ _)))
/-- The sum of digits. -/
theorem big_add (a b : Sl Int) (w : World) (ha : Rd (· < w.heap.size) 1 ienc w a) (hb : Rd (· < w.heap.size) 1 ienc w b) (na : DigOK a.l) (nb : DigOK b.l) (hla : a.l.length ≤ 200) (hlb : b.l.length ≤ 200) {n : Nat} (hn : val a.l + val b.l = n) :
    Calls Tryz.prog 164 #[a.v, b.v] w fun e w' => SlP w w' (digs n) e := by
  by_cases h : b.l.length ≤ a.l.length
  · refine (big_add1 a b w ha hb na nb hla h).mono fun e w' hp => hp.cast ?_
    rw [addC_trim na nb h hn]
  · refine (big_add2 a b w ha hb na nb hlb (by omega)).mono fun e w' hp => hp.cast ?_
    rw [addC_trim nb na (by omega) (by rw [Int.add_comm]; exact hn)]
end Go.Proofs.YtcgocdhhneckhaaGreat
