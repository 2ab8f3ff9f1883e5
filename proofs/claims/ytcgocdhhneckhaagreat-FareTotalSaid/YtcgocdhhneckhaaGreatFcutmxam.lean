/- Walks: units.name; the closures that ask whether a let is right. -/
import Derived.Test.YtcgocdhhneckhaaGreatFcutmxal
import Derived.Test.YtcgocdhhneckhaaGreatFcutmxae
import Derived.Test.YtcgocdhhneckhaaGreatFcutmxac
namespace Go.Proofs.YtcgocdhhneckhaaGreat
open Go.RowKit
set_option maxHeartbeats 800000 in
theorem un_bad_of (x : LT) (w : World) (hx : LT.At (· < w.heap.size) w x) : Calls Tryz.prog 60 #[x.v] w fun r w' => r = .returned (.bool (!rexp x.b)) ∧ Below w.heap.size w w' := by
  obtain ⟨xn, xo, xm, xu, xs, xA, xc, xl⟩ := x
  have HX := Lib.hid hx.b
  clear hx
  simp only at HX
  simp only [LT.v]
  go_enter Tryz.func60, Tryz.ntmps60
  go_wp2_with fail
  have HB : Hid (Below w.heap.size w (w.alloc (.cells #[.string xn, .int .i64 xo, .int .i64 xm, .int .i64 xu, .string xs, .slice xA xl.length xc] 57))) := Lib.hid (by repeat (first | (with_reducible exact Below.refl _ _) | ((with_reducible refine below_setr ?_ ?_); focus (first | (simp; done) | (simp; omega) | omega)) | ((with_reducible refine below_allocr ?_ ?_); focus (first | (simp; done) | (simp; omega) | omega)) | (with_reducible refine Below.drew ?_) | (with_reducible refine below_drewN ?_ _)))
  refine (syn_rexp ⟨xo, xm, xu, xs, xA, xc, xl⟩ _ (HX.out.later HB.out)).mono ?_
  rintro e w' ⟨rfl, hb⟩
  have hB : Below w.heap.size w w' := HB.out.trans (hb.mono HB.out.size)
  clear hb
  obtain ⟨r, hr⟩ : ∃ r, rexp ⟨xo, xm, xu, xs, xA, xc, xl⟩ = r := ⟨_, rfl⟩
  rw [hr]
  have HR : Hid ((!r) = !rexp ⟨xo, xm, xu, xs, xA, xc, xl⟩) := Lib.hid (by rw [hr])
  clear hr
  go_wp2_with fail
  go_ret
  exact ⟨ret_bool HR.out, hB⟩
set_option maxHeartbeats 800000 in
theorem un_bad_va (x : LT) (w : World) (hx : LT.At (· < w.heap.size) w x) : Calls Tryz.prog 65 #[x.v] w fun r w' => r = .returned (.bool (!rexp x.b)) ∧ Below w.heap.size w w' := by
  obtain ⟨xn, xo, xm, xu, xs, xA, xc, xl⟩ := x
  have HX := Lib.hid hx.b
  clear hx
  simp only at HX
  simp only [LT.v]
  go_enter Tryz.func65, Tryz.ntmps65
  go_wp2_with fail
  have HB : Hid (Below w.heap.size w (w.alloc (.cells #[.string xn, .int .i64 xo, .int .i64 xm, .int .i64 xu, .string xs, .slice xA xl.length xc] 57))) := Lib.hid (by repeat (first | (with_reducible exact Below.refl _ _) | ((with_reducible refine below_setr ?_ ?_); focus (first | (simp; done) | (simp; omega) | omega)) | ((with_reducible refine below_allocr ?_ ?_); focus (first | (simp; done) | (simp; omega) | omega)) | (with_reducible refine Below.drew ?_) | (with_reducible refine below_drewN ?_ _)))
  refine (syn_rexp ⟨xo, xm, xu, xs, xA, xc, xl⟩ _ (HX.out.later HB.out)).mono ?_
  rintro e w' ⟨rfl, hb⟩
  have hB : Below w.heap.size w w' := HB.out.trans (hb.mono HB.out.size)
  clear hb
  obtain ⟨r, hr⟩ : ∃ r, rexp ⟨xo, xm, xu, xs, xA, xc, xl⟩ = r := ⟨_, rfl⟩
  rw [hr]
  have HR : Hid ((!r) = !rexp ⟨xo, xm, xu, xs, xA, xc, xl⟩) := Lib.hid (by rw [hr])
  clear hr
  go_wp2_with fail
  go_ret
  exact ⟨ret_bool HR.out, hB⟩
def nameU (s : ByteArray) : List LT → List Int → Int
  | x :: L, u :: U => if (x.nm.toList == s.toList) = true then u else nameU s L U
  | _, _ => -1
theorem nameU_none {s : ByteArray} : ∀ {L : List LT} {U : List Int}, (∀ x ∈ L, (x.nm.toList == s.toList) = false) → nameU s L U = -1
  | [], _, _ => by unfold nameU; rfl
  | x :: L, [], _ => by unfold nameU; rfl
  | x :: L, u :: U, h => by
    unfold nameU
    rw [if_neg (by rw [h x (List.mem_cons_self ..)]; simp)]
    exact nameU_none fun y hy => h y (List.mem_cons_of_mem _ hy)
theorem nameU_at {s : ByteArray} : ∀ {L : List LT} {U : List Int} {j : Nat} {x : LT} {u : Int}, L[j]? = some x → U[j]? = some u → (x.nm.toList == s.toList) = true → (∀ y ∈ L.take j, (y.nm.toList == s.toList) = false) → nameU s L U = u
  | [], _, j, _, _, h, _, _, _ => by simp at h
  | x :: L, [], j, _, _, _, h, _, _ => by simp at h
  | x :: L, u :: U, 0, y, v, h1, h2, h3, _ => by
    simp only [List.getElem?_cons_zero, Option.some.injEq] at h1 h2
    subst h1 h2
    unfold nameU
    rw [if_pos h3]
  | x :: L, u :: U, j + 1, y, v, h1, h2, h3, h4 => by
    unfold nameU
    rw [List.take_succ_cons] at h4
    rw [if_neg (by rw [h4 x (List.mem_cons_self ..)]; simp)]
    exact nameU_at (by simpa using h1) (by simpa using h2) h3 fun z hz => h4 z (List.mem_cons_of_mem _ hz)
set_option maxHeartbeats 1600000 in
theorem un_name (L : Sl LT) (U : Sl Int) (s : ByteArray) (w : World) (hL : LetsAt (· < w.heap.size) w L) (hU : Rd (· < w.heap.size) 1 ienc w U) (hlen : U.l.length = L.l.length) :
    Calls Tryz.prog 143 #[.agg #[.slice L.A L.l.length L.c, .slice U.A U.l.length U.c], .string s] w fun r w' => r = .returned (.int .i64 (nameU s L.l U.l)) ∧ Below w.heap.size w w' := by
  have hln := hL.rd.len
  have HL := Lib.hid hL
  have HU := Lib.hid hU
  have HLN := Lib.hid hlen
  have hun := hU.len
  clear hL hU hlen
  go_enter Tryz.func143, Tryz.ntmps143
  go_wp2_with fail
  have HB : Hid (Below w.heap.size w ((w.alloc (.cells #[.slice L.A L.l.length L.c, .slice U.A U.l.length U.c] 103)).alloc (.cells #[.string s] 9))) := Lib.hid (by repeat (first | (with_reducible exact Below.refl _ _) | ((with_reducible refine below_setr ?_ ?_); focus (first | (simp; done) | (simp; omega) | omega)) | ((with_reducible refine below_allocr ?_ ?_); focus (first | (simp; done) | (simp; omega) | omega)) | (with_reducible refine Below.drew ?_) | (with_reducible refine below_drewN ?_ _)))
  have HA : Hid (Blk ((w.alloc (.cells #[.slice L.A L.l.length L.c, .slice U.A U.l.length U.c] 103)).alloc (.cells #[.string s] 9)) w.heap.size 103 #[.slice L.A L.l.length L.c, .slice U.A U.l.length U.c]) := Lib.hid ((Blk.new _ _ _).alloc _)
  have HC : Hid (Blk ((w.alloc (.cells #[.slice L.A L.l.length L.c, .slice U.A U.l.length U.c] 103)).alloc (.cells #[.string s] 9)) (w.heap.size + 1) 9 #[.string s]) := Lib.hid (Blk.new' (by simp))
  generalize (w.alloc (.cells #[.slice L.A L.l.length L.c, .slice U.A U.l.length U.c] 103)).alloc (.cells #[.string s] 9) = w2 at *
  have hcon := idxL_nm L (fun x => x.nm.toList == s.toList) (w.heap.size + 1) w2 (HL.out.later HB.out).rd (fun W x _ hW => un_name1 x s _ W (HC.out.later hW).b1.1 (HC.out.later hW).lt)
  rcases idxP_ge (fun x : LT => x.nm.toList == s.toList) L.l 0 with ⟨h1, h2⟩ | ⟨j, x, h1, h2, h3, h4⟩
  · rw [h1] at hcon
    have HV := Lib.hid (nameU_none (U := U.l) h2)
    clear h1 h2
    refine hcon.mono ?_
    clear hcon
    rintro e w3 ⟨rfl, hb3⟩
    have hB : Below w.heap.size w w3 := HB.out.trans (hb3.mono HB.out.size)
    clear hb3
    go_wp2_with fail
    go_ret
    exact ⟨ret_int HV.out.symm, hB⟩
  · have hj : j < L.l.length := (List.getElem?_eq_some_iff.1 h2).1
    have hjU : j < U.l.length := by have := HLN.out; omega
    rw [h1, Nat.zero_add] at hcon
    have HV := Lib.hid (nameU_at h2 (List.getElem?_eq_getElem hjU) h3 h4)
    clear h1 h2 h3 h4
    refine hcon.mono ?_
    clear hcon
    rintro e w3 ⟨rfl, hb3⟩
    have hB : Below w.heap.size w w3 := HB.out.trans (hb3.mono HB.out.size)
    obtain ⟨b, o, hA, _, c0⟩ := (HU.out.later hB).geti hjU
    obtain ⟨a0, a1, af, az⟩ := (HA.out.later hb3).b2
    clear hb3
    rw [hA] at a1
    go_wp2_with fail
    go_ret
    exact ⟨ret_int HV.out.symm, hB⟩
end Go.Proofs.YtcgocdhhneckhaaGreat
/- Walks of package big: Right. -/
namespace Go.Proofs.YtcgocdhhneckhaaGreat
open Go.RowKit
structure Big where
  s : Int
  l : Sl Int
def Big.d (a : Big) : BigD := ⟨a.s, a.l.l⟩
def Big.v (a : Big) : Value := .agg #[.int .i64 a.s, .slice a.l.A a.l.l.length a.l.c]
theorem bright_no {s : Int} {l : List Int} {i : Nat} (hi : i < l.length) (h : l[i] < 0 ∨ 1048575 < l[i]) : (BigD.mk s l).right = false := by
  rcases hr : (BigD.mk s l).right
  · rfl
  · unfold BigD.right at hr
    rw [Bool.and_eq_true, all_digOK] at hr
    have := hr.1 l[i] (List.getElem_mem hi)
    omega
theorem bright_nil {s : Int} : (BigD.mk s []).right = decide (s = 0) := by simp [BigD.right]
theorem bright_yes {s : Int} {l : List Int} (h : DigOK l) (hl : l.length - 1 < l.length) : (BigD.mk s l).right = ((decide (s = 1) || decide (s = -1)) && (decide (l.length ≤ 60) && decide (l[l.length - 1] ≠ 0))) := by
  have hg : l.getLast? = some l[l.length - 1] := by rw [List.getLast?_eq_getElem?, List.getElem?_eq_getElem hl]
  unfold BigD.right
  simp only
  rw [all_digOK.2 h, hg]; simp
set_option maxHeartbeats 400000 in
theorem big_right (a : Big) (w : World) (hr : Rd (· < w.heap.size) 1 ienc w a.l) :
    Calls Tryz.prog 159 #[a.v] w fun e w' => e = .returned (.bool a.d.right) ∧ Below w.heap.size w w' := by
  obtain ⟨s, ⟨A, c, l⟩⟩ := a
  have HR := Lib.hid hr
  have hml : l.length ≤ 9223372036854775807 := hr.len
  clear hr
  simp only [Big.v, Big.d]
  go_enter Tryz.func159, Tryz.ntmps159
  go_wp2_with fail
  go_loopw [5, 12] (fun _ v wr => ∃ (k : Nat), k ≤ l.length ∧ v = .int .i64 k ∧ (∀ j, (hj : j < l.length) → j < k → 0 ≤ l[j] ∧ l[j] < 1048576) ∧ Blk wr w.heap.size 69 #[.int .i64 s, .slice A l.length c] ∧ Below w.heap.size w wr) (fun _ v _ => l.length - (intOf v).toNat)
  case atStart => exact ⟨0, by omega, rfl, fun j _ hj => absurd hj (Nat.not_lt_zero _), Blk.new _ _ _, (by repeat (first | (with_reducible exact Below.refl _ _) | ((with_reducible refine below_setr ?_ ?_); focus (first | (simp; done) | (simp; omega) | omega)) | ((with_reducible refine below_allocr ?_ ?_); focus (first | (simp; done) | (simp; omega) | omega)) | (with_reducible refine Below.drew ?_) | (with_reducible refine below_drewN ?_ _)))⟩
  case round =>
    obtain ⟨k, hk, rfl, hall, hblk, hbel⟩ := hrel
    obtain ⟨b0, b1, bf, bz⟩ := hblk.b2
    by_cases hkl : k < l.length
    · have hkl' : (k : Int) < (l.length : Int) := by omega
      obtain ⟨b, o, hA, hF, hcl⟩ := (HR.out.later hbel).at1 hkl
      simp only at hA
      subst hA
      have c0 := hcl.c1
      simp only [Nat.mul_one] at c0
      generalize hx : l[k] = x at *
      have HX := Lib.hid hx
      have HALL := Lib.hid hall
      have HBLK := Lib.hid hblk
      clear hx hall hcl hblk
      by_cases h1 : x < 0
      · go_wp2_with fail
        go_ret
        exact ⟨ret_bool (bright_no hkl (.inl (HX.out ▸ h1))).symm, hbel⟩
      · by_cases h2 : 1048575 < x
        · go_wp2_with fail
          go_ret
          exact ⟨ret_bool (bright_no hkl (.inr (HX.out ▸ h2))).symm, hbel⟩
        · go_wp2_with fail
          go_roundw
          case rel =>
            refine ⟨k + 1, by omega, by go_num, fun j hj hjk => ?_, HBLK.out, hbel⟩
            by_cases he : j = k
            · subst he; rw [HX.out]; omega
            · exact HALL.out j hj (by omega)
          case measure => simp [intOf]; omega
    · obtain rfl : k = l.length := by omega
      have hok : DigOK l := fun d hd => by
        obtain ⟨j, hj, rfl⟩ := List.mem_iff_getElem.1 hd
        exact hall j hj hj
      have HOK := Lib.hid hok
      clear hall hok
      by_cases hz : l.length = 0
      · go_wp2_with fail
        go_ret
        exact ⟨ret_bool (by rw [List.eq_nil_of_length_eq_zero hz, bright_nil]; rfl), hbel⟩
      · have hl1 : l.length - 1 < l.length := by omega
        obtain ⟨b, o, hA, hF, c0⟩ := (HR.out.later hbel).geti hl1
        simp only at hA c0
        subst hA
        have HY := Lib.hid (bright_yes (s := s) HOK.out hl1)
        generalize l[l.length - 1] = x at *
        clear HOK
        by_cases h3 : l.length ≤ 60
        · by_cases h1 : s = 1
          · subst h1
            go_wp2_with fail
            go_ret
            exact ⟨ret_bool (by rw [HY.out]; simp [h3]; rfl), hbel⟩
          · by_cases h2 : s = -1
            · subst h2
              go_wp2_with fail
              go_ret
              exact ⟨ret_bool (by rw [HY.out]; simp [h3]; rfl), hbel⟩
            · go_wp2_with fail
              go_ret
              exact ⟨ret_bool (by rw [HY.out]; simp [h1, h2]), hbel⟩
        · by_cases h1 : s = 1
          · subst h1
            go_wp2_with fail
            go_ret
            exact ⟨ret_bool (by rw [HY.out]; simp; omega), hbel⟩
          · by_cases h2 : s = -1
            · subst h2
              go_wp2_with fail
              go_ret
              exact ⟨ret_bool (by rw [HY.out]; simp; omega), hbel⟩
            · go_wp2_with fail
              go_ret
              exact ⟨ret_bool (by rw [HY.out]; simp [h1, h2]), hbel⟩
end Go.Proofs.YtcgocdhhneckhaaGreat
/- Walks of package big: trim, signed. -/
namespace Go.Proofs.YtcgocdhhneckhaaGreat
open Go.RowKit
theorem take_zero_step {l : List Int} {k : Nat} (hk : k < l.length) (h0 : l[k] = 0) : trimL (l.take (k + 1)) = trimL (l.take k) := by
  rw [List.take_succ_eq_append_getElem hk, h0, trimL_zero]
theorem take_top_step {l : List Int} {k : Nat} (hk : k < l.length) (h0 : l[k] ≠ 0) : trimL (l.take (k + 1)) = l.take (k + 1) := by
  rw [List.take_succ_eq_append_getElem hk, trimL_top _ h0]
set_option maxHeartbeats 400000 in
theorem big_trim (s : Sl Int) {F : Nat → Prop} (w : World) (hr : Rd F 1 ienc w s) :
    Calls Tryz.prog 183 #[.slice s.A s.l.length s.c] w fun e w' => e = .returned (.slice s.A (trimL s.l).length s.c) ∧ w = w' := by
  obtain ⟨A, c, l⟩ := s
  have hml : l.length ≤ 9223372036854775807 := hr.len
  have hcap : l.length ≤ c := hr.1
  have hcm : c ≤ 9223372036854775807 := hr.cap
  have HR := Lib.hid hr
  clear hr
  simp only
  go_enter Tryz.func183, Tryz.ntmps183
  go_wp2_with fail
  go_loopw [3] (fun v wr => ∃ (k : Nat), k ≤ l.length ∧ v = .int .i64 k ∧ Hid (trimL l = trimL (l.take k)) ∧ w = wr) (fun v _ => (intOf v).toNat)
  case atStart => exact ⟨l.length, Nat.le_refl _, rfl, Lib.hid (by rw [List.take_length]), rfl⟩
  case round =>
    obtain ⟨k, hk, rfl, HT, rfl⟩ := hrel
    rcases k with _ | k
    · have hT : trimL l = [] := by rw [HT.out]; rfl
      have HL := Lib.hid (congrArg List.length hT)
      clear hT HT
      go_wp2_with fail
      go_ret
      exact ⟨by rw [HL.out]; rfl, rfl⟩
    · obtain ⟨b, o, hA, hF, c0⟩ := HR.out.geti (show k < l.length by omega)
      simp only at hA c0
      subst hA
      have h1 := fun h : l[k]'(Nat.lt_of_succ_le hk) = 0 => take_zero_step (l := l) (k := k) (Nat.lt_of_succ_le hk) h
      have h2 := fun h : l[k]'(Nat.lt_of_succ_le hk) ≠ 0 => take_top_step (l := l) (k := k) (Nat.lt_of_succ_le hk) h
      generalize l[k] = x at *
      have H1 := Lib.hid h1
      have H2 := Lib.hid h2
      clear h1 h2
      by_cases hx : x = 0
      · have HT2 := Lib.hid (HT.out.trans (H1.out hx))
        clear HT H1 H2
        go_wp2_with fail
        go_roundw
        case rel => exact ⟨k, by omega, by go_num, HT2, trivial⟩
        case measure => simp [intOf]
      · have hT := congrArg List.length (HT.out.trans (H2.out hx))
        rw [List.length_take, Nat.min_eq_left (by omega)] at hT
        have HL := Lib.hid hT
        clear HT H1 H2 hT
        go_wp2_with fail
        go_ret
        exact ⟨by rw [HL.out]; rfl, rfl⟩
def Sl.v (s : Sl Int) : Value := .slice s.A s.l.length s.c
/-- A slice with these digits. -/
def SlP (w w' : World) (l : List Int) (e : Ending) : Prop := ∃ s : Sl Int, e = .returned s.v ∧ s.l = l ∧ Own w.heap.size 3 1 ienc w' s ∧ Below w.heap.size w w'
def BigP (w w' : World) (d : BigD) (e : Ending) : Prop := ∃ a : Big, e = .returned a.v ∧ a.d = d ∧ Rd (Nw w.heap.size w') 1 ienc w' a.l ∧ Below w.heap.size w w'
/-- The same, the digits in memory of which F holds. -/
def BigF (F : Nat → Prop) (w w' : World) (d : BigD) (e : Ending) : Prop := ∃ a : Big, e = .returned a.v ∧ a.d = d ∧ Rd F 1 ienc w' a.l ∧ Below w.heap.size w w'
theorem BigF.cast {F : Nat → Prop} {w w' : World} {d d' : BigD} {e : Ending} (h : d = d') (x : BigF F w w' d' e) : BigF F w w' d e := by rw [h]; exact x
theorem BigP.cast {w w' : World} {d d' : BigD} {e : Ending} (h : d = d') (x : BigP w w' d' e) : BigP w w' d e := by rw [h]; exact x
theorem SlP.cast {w w' : World} {d d' : List Int} {e : Ending} (h : d = d') (x : SlP w w' d' e) : SlP w w' d e := by rw [h]; exact x
set_option maxHeartbeats 400000 in
theorem big_signed (g : Int) (s : Sl Int) {F : Nat → Prop} (w : World) (hr : Rd F 1 ienc w s) (hF : ∀ b, F b → b < w.heap.size) :
    Calls Tryz.prog 163 #[.int .i64 g, s.v] w fun e w' => BigF F w w' (signedD g s.l) e := by
  obtain ⟨A, c, l⟩ := s
  have HT := big_trim ⟨A, c, l⟩ (w.alloc (.cells #[.int .i64 0, .slice none 0 0] 69)) (hr.up hF (by repeat (first | (with_reducible exact Below.refl _ _) | ((with_reducible refine below_setr ?_ ?_); focus (first | (simp; done) | (simp; omega) | omega)) | ((with_reducible refine below_allocr ?_ ?_); focus (first | (simp; done) | (simp; omega) | omega)) | (with_reducible refine Below.drew ?_) | (with_reducible refine below_drewN ?_ _))))
  have hml : (trimL l).length ≤ 9223372036854775807 := Nat.le_trans (trimL_le l) hr.len
  have HR := Lib.hid hr
  have HF := Lib.hid hF
  clear hr hF
  simp only [Sl.v] at HT ⊢
  go_enter Tryz.func163, Tryz.ntmps163
  go_wp2_with fail
  refine HT.mono ?_
  rintro e w1 ⟨rfl, rfl⟩
  by_cases hz : (trimL l).length = 0
  · have hd : signedD g l = ⟨0, []⟩ := by unfold signedD; rw [if_pos (List.eq_nil_of_length_eq_zero hz)]
    have HD := Lib.hid hd
    clear hd
    go_wp2_with fail
    try simp only [Exit.inBlock, Exit.then]
    refine bodyPost_ret (v := .agg #[.int .i64 0, .slice none 0 0]) ?_ rfl (BigF.cast HD.out ⟨⟨0, ⟨none, 0, []⟩⟩, rfl, rfl, Rd.nil _ _ _ _, (by repeat (first | (with_reducible exact Below.refl _ _) | ((with_reducible refine below_setr ?_ ?_); focus (first | (simp; done) | (simp; omega) | omega)) | ((with_reducible refine below_allocr ?_ ?_); focus (first | (simp; done) | (simp; omega) | omega)) | (with_reducible refine Below.drew ?_) | (with_reducible refine below_drewN ?_ _)))⟩)
    simp [results, Tryz.results163, go_sem, ]
  · have hd : signedD g l = ⟨g, trimL l⟩ := by unfold signedD; rw [if_neg (fun h => hz (by rw [h]; rfl))]
    have HD := Lib.hid hd
    have HP : Hid (Rd F 1 ienc w ⟨A, c, trimL l⟩) := Lib.hid (by
      have := HR.out.takeN (trimL l).length
      rw [← trimL_take] at this
      exact this)
    clear hd HR
    go_wp2_with fail
    try simp only [Exit.inBlock, Exit.then]
    refine bodyPost_ret (v := .agg #[.int .i64 g, .slice A (trimL l).length c]) ?_ rfl (BigF.cast HD.out ⟨⟨g, ⟨A, c, trimL l⟩⟩, rfl, rfl, HP.out.up HF.out (by repeat (first | (with_reducible exact Below.refl _ _) | ((with_reducible refine below_setr ?_ ?_); focus (first | (simp; done) | (simp; omega) | omega)) | ((with_reducible refine below_allocr ?_ ?_); focus (first | (simp; done) | (simp; omega) | omega)) | (with_reducible refine Below.drew ?_) | (with_reducible refine below_drewN ?_ _))), (by repeat (first | (with_reducible exact Below.refl _ _) | ((with_reducible refine below_setr ?_ ?_); focus (first | (simp; done) | (simp; omega) | omega)) | ((with_reducible refine below_allocr ?_ ?_); focus (first | (simp; done) | (simp; omega) | omega)) | (with_reducible refine Below.drew ?_) | (with_reducible refine below_drewN ?_ _)))⟩)
    simp [results, Tryz.results163, go_sem, ]
/-- trim, as a slice of the same memory. -/
theorem Rd.trim {F : Nat → Prop} {w : World} {s : Sl Int} (h : Rd F 1 ienc w s) : Rd F 1 ienc w ⟨s.A, s.c, trimL s.l⟩ := by
  have := h.takeN (trimL s.l).length
  rw [← trimL_take] at this
  exact this
end Go.Proofs.YtcgocdhhneckhaaGreat
/- Fractions of integers as the program compares them; in plain Lean. -/
namespace Go.Proofs.YtcgocdhhneckhaaGreat
def ucmp (x y : Int) : Int := if x < y then -1 else if y < x then 1 else 0
theorem ucmp_sign (x y : Int) : ucmp x y = (x - y).sign := by
  unfold ucmp
  split
  · rw [Int.sign_eq_neg_one_of_neg (by omega)]
  · split
    · rw [Int.sign_eq_one_of_pos (by omega)]
    · rw [show x - y = 0 by omega]; rfl
/-- Integral parts first, then what is left, upside down. -/
def cmpI (p q r s : Int) : Int :=
  if h : 0 < q ∧ 0 < s then
    if p / q ≠ r / s then ucmp (p / q) (r / s)
    else if p % q = 0 ∨ r % s = 0 then (p % q).sign - (r % s).sign
    else -(cmpI q (p % q) s (r % s))
  else 0
termination_by q.toNat
decreasing_by
  have := Int.emod_lt_of_pos p h.1
  have := Int.emod_nonneg p (show q ≠ 0 by omega)
  omega
theorem sign_mul_pos {a b : Int} (hb : 0 < b) : (a * b).sign = a.sign := by rw [Int.sign_mul, Int.sign_eq_one_of_pos hb, Int.mul_one]
theorem cmpI_is : ∀ (n : Nat) (p q r s : Int), q.toNat ≤ n → 0 < q → 0 < s → cmpI p q r s = (p * s - r * q).sign
  | 0, p, q, r, s, hn, hq, _ => by omega
  | n + 1, p, q, r, s, hn, hq, hs => by
    have e1 := Int.mul_ediv_add_emod p q
    have e2 := Int.mul_ediv_add_emod r s
    have u0 := Int.emod_nonneg p (show q ≠ 0 by omega)
    have u1 := Int.emod_lt_of_pos p hq
    have v0 := Int.emod_nonneg r (show s ≠ 0 by omega)
    have v1 := Int.emod_lt_of_pos r hs
    have ih := fun h1 h2 => cmpI_is n q (p % q) s (r % s) h1 h2
    unfold cmpI
    rw [dif_pos ⟨hq, hs⟩]
    generalize p / q = x at *
    generalize p % q = u at *
    generalize r / s = y at *
    generalize r % s = v at *
    have hk : p * s - r * q = (x - y) * (q * s) + (u * s - v * q) := by
      rw [← e1, ← e2, Int.add_mul, Int.add_mul, Int.sub_mul]
      rw [show q * x * s = x * (q * s) by rw [Int.mul_comm q x, Int.mul_assoc], show s * y * q = y * (q * s) by rw [Int.mul_comm s y, Int.mul_assoc, Int.mul_comm s q]]
      omega
    have hqs : 0 < q * s := Int.mul_pos hq hs
    have hus0 : 0 ≤ u * s := Int.mul_nonneg u0 (by omega)
    have hvq0 : 0 ≤ v * q := Int.mul_nonneg v0 (by omega)
    have hus1 : u * s < q * s := Int.mul_lt_mul_of_pos_right u1 hs
    have hvq1 : v * q < q * s := by rw [Int.mul_comm q s]; exact Int.mul_lt_mul_of_pos_right v1 hq
    rw [hk]
    split
    · rename_i hne
      rw [ucmp_sign]
      rcases Int.lt_or_gt_of_ne hne with hlt | hgt
      · have : (x - y) * (q * s) ≤ -1 * (q * s) := Int.mul_le_mul_of_nonneg_right (by omega) (by omega)
        rw [Int.sign_eq_neg_one_of_neg (by omega), Int.sign_eq_neg_one_of_neg (by omega)]
      · have : 1 * (q * s) ≤ (x - y) * (q * s) := Int.mul_le_mul_of_nonneg_right (by omega) (by omega)
        rw [Int.sign_eq_one_of_pos (by omega), Int.sign_eq_one_of_pos (by omega)]
    · rename_i heq
      have heq : x = y := Decidable.not_not.1 heq
      rw [show x - y = 0 by omega, Int.zero_mul, Int.zero_add]
      split
      · rename_i h0
        rcases h0 with rfl | rfl
        · rw [Int.zero_mul, Int.zero_sub, Int.sign_neg, sign_mul_pos hq]; simp
        · rw [Int.zero_mul, Int.sub_zero, sign_mul_pos hs]; simp
      · rename_i h0
        have hu : 0 < u := by omega
        have hv : 0 < v := by omega
        rw [ih (by omega) hu hv, ← Int.sign_neg]
        congr 1
        rw [Int.mul_comm q v, Int.mul_comm s u]; omega
theorem cmpI_sign {p q r s : Int} (hq : 0 < q) (hs : 0 < s) : cmpI p q r s = (p * s - r * q).sign := cmpI_is _ p q r s (Nat.le_refl _) hq hs
end Go.Proofs.YtcgocdhhneckhaaGreat
