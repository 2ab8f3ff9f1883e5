/- Walks of package phone: Lend, its cases together. -/
import Derived.Test.YthnblhbdfpmolaaHoldsxbe
namespace Go.Proofs.Ythnblhbdfpmolaa
open Go.RowKit
theorem StockD.lend_fits {x : StockD} {p n : Int} (h : (x.lend p n).2 = 0) : x.fits p n = true := by
  unfold StockD.lend at h
  split at h
  · assumption
  · simp at h
theorem phone_lend (p : Phone) (ss : Sl Stock) (k n : Int) (w : World) (hr : RdPhone (· < w.heap.size) w p) (hs : RdStocks (· < w.heap.size) w ss) (hb : ss.l.length * 40 ≤ 140737488355328) :
    Calls Try.prog 21 #[p.v, .slice ss.A ss.l.length ss.c, .int .i64 k, .int .i64 n] w fun e w' => ∃ (p' : Phone) (s' : Sl Stock), e = .returned (.tuple #[p'.v, .slice s'.A s'.l.length s'.c, .int .i64 (p.d.lend (ss.l.map Stock.d) k n).2.2]) ∧ p'.d = (p.d.lend (ss.l.map Stock.d) k n).1 ∧ s'.l.map Stock.d = (p.d.lend (ss.l.map Stock.d) k n).2.1 ∧
      RdPhone (· < w'.heap.size) w' p' ∧ RdStocks (· < w'.heap.size) w' s' ∧ Below w.heap.size w w' := by
  have back : ∀ {q : Int}, p.d.lend (ss.l.map Stock.d) k n = (p.d, ss.l.map Stock.d, q) → Calls Try.prog 21 #[p.v, .slice ss.A ss.l.length ss.c, .int .i64 k, .int .i64 n] w (fun e w' => e = .returned (.tuple #[p.v, .slice ss.A ss.l.length ss.c, .int .i64 q]) ∧ Below w.heap.size w w') →
      Calls Try.prog 21 #[p.v, .slice ss.A ss.l.length ss.c, .int .i64 k, .int .i64 n] w fun e w' => ∃ (p' : Phone) (s' : Sl Stock), e = .returned (.tuple #[p'.v, .slice s'.A s'.l.length s'.c, .int .i64 (p.d.lend (ss.l.map Stock.d) k n).2.2]) ∧ p'.d = (p.d.lend (ss.l.map Stock.d) k n).1 ∧ s'.l.map Stock.d = (p.d.lend (ss.l.map Stock.d) k n).2.1 ∧
      RdPhone (· < w'.heap.size) w' p' ∧ RdStocks (· < w'.heap.size) w' s' ∧ Below w.heap.size w w' := by
    intro q hq hc
    rw [hq]
    refine hc.mono ?_
    rintro e w' ⟨rfl, hb⟩
    exact ⟨p, ss, rfl, rfl, rfl, hr.later hb (Nat.le_refl _), hs.later hb (Nat.le_refl _), hb⟩
  rcases hf : okLend p.d (ss.l.map Stock.d) k
  · exact back (by unfold PhoneD.lend; rw [hf]; rfl) (phone_lend_no p ss k n w hr hs hb hf)
  · have hf' := hf
    simp only [okLend, Bool.and_eq_true, List.length_map] at hf'
    obtain ⟨hF, hG, hk⟩ := hf'
    have hk' := rngB_iff.1 hk
    obtain ⟨j, rfl⟩ := Int.eq_ofNat_of_zero_le hk'.1
    have hj : j < ss.l.length := by omega
    have hR := PhoneD.right_iff hF
    obtain ⟨hl, hso, hal⟩ := holdsR_iff hR.H
    rcases hc : p.cut
    · have hc' : p.d.cut = false := hc
      have hxj : ss.l[j]? = some ss.l[j] := List.getElem?_eq_getElem hj
      generalize ss.l[j] = x at hxj
      have hxd : (ss.l.map Stock.d)[((j : Nat) : Int).toNat]? = some x.d := by simp [hxj]
      have hle : p.d.lend (ss.l.map Stock.d) j n = if !hhas p.d.H j && decide (p.d.H.length = 100) then (p.d, ss.l.map Stock.d, 6) else if (x.d.lend p.d.id n).2 = 0 then ({ p.d with H := addH p.d.H j n }, (ss.l.map Stock.d).set j (x.d.lend p.d.id n).1, 0) else (p.d, ss.l.map Stock.d, (x.d.lend p.d.id n).2) := by
        unfold PhoneD.lend
        rw [hf, if_pos rfl, if_neg (by rw [hc']; simp), hxd]
        simp only [Int.toNat_natCast]
      by_cases hfu : (!hhas p.d.H j && decide (p.d.H.length = 100)) = true
      · have h2 := hfu
        simp only [Bool.and_eq_true, Bool.not_eq_true', decide_eq_true_eq] at h2
        exact back (by rw [hle, if_pos hfu]) (phone_lend_full p ss j n w hr hs hb hF hG hk hc h2.1 h2.2)
      · rw [hle, if_neg hfu]
        rw [hle, if_neg hfu] at back
        rcases hh : hhas p.H.l j
        · have h99 : p.H.l.length ≤ 99 := by
            have h2 := hfu
            have hh' : hhas p.d.H j = false := hh
            rw [hh'] at h2
            simp only [Bool.not_false, Bool.true_and, decide_eq_true_eq] at h2
            have h3 : p.H.l.length ≤ 100 := hl
            have h4 : ¬ p.H.l.length = 100 := h2
            omega
          by_cases hE : (x.d.lend p.d.id n).2 = 0
          · rw [if_pos hE]
            have hn := StockD.fits_iff (StockD.lend_fits hE)
            refine (phone_lend_new p ss j x n (hidx p.H.l j) w hr hs hb hF hG hk hj hc hh (Lib.hid rfl) (hidx_le _ _) h99 hn.2.2.2.1 hn.2.2.2.2 hxj hE).mono ?_
            rintro e w' ⟨p', s', rfl, hd, hm, h1, h2, h3⟩
            refine ⟨p', s', rfl, ?_, hm, h1, h2, h3⟩
            rw [hd]
            have hh' : hhas p.d.H j = false := hh
            simp only [addH, hh']
            rfl
          · rw [if_neg hE] at back ⊢
            exact back rfl (phone_lend_err p ss j x n w hr hs hb hF hG hk hj hc false hh (by simp; omega) hxj hE)
        · by_cases hE : (x.d.lend p.d.id n).2 = 0
          · rw [if_pos hE]
            have hn := StockD.fits_iff (StockD.lend_fits hE)
            obtain ⟨hx, hhx, _⟩ := hidx_at hso hh
            obtain ⟨_, x1, x2, _⟩ := hal hx (List.mem_of_getElem? hhx)
            refine (phone_lend_had p ss j x n (hidx p.H.l j) hx w hr hs hb hF hG hk hj hc hh (Lib.hid rfl) hhx x1 x2 hn.2.2.2.1 hn.2.2.2.2 hxj hE).mono ?_
            rintro e w' ⟨p', s', rfl, hd, hm, h1, h2, h3⟩
            refine ⟨p', s', rfl, ?_, hm, h1, h2, h3⟩
            rw [hd]
            have hh' : hhas p.d.H j = true := hh
            have hhx' : p.d.H[hidx p.d.H j]? = some hx := hhx
            simp only [addH, hh', if_true, hhx']
            rfl
          · rw [if_neg hE] at back ⊢
            exact back rfl (phone_lend_err p ss j x n w hr hs hb hF hG hk hj hc true hh rfl hxj hE)
    · have hc' : p.d.cut = true := hc
      exact back (by unfold PhoneD.lend; rw [hf, if_pos rfl, if_pos hc']) (phone_lend_cut p ss j n w hr hs hb hF hG hk hc)
end Go.Proofs.Ythnblhbdfpmolaa
/- Walks of package phone: Join, the ways back. -/
namespace Go.Proofs.Ythnblhbdfpmolaa
open Go.RowKit
def joinS (id : Int) (h : Hold) (s : StockD) : StockD := ((if 0 < h.s then (s.use id h.s).1 else s).give id).1
def joinGo (id : Int) : List Hold → List StockD → List StockD
  | [], ss => ss
  | h :: r, ss => joinGo id r (match ss[h.st.toNat]? with | some s => ss.set h.st.toNat (joinS id h s) | none => ss)
def seenJ (id : Int) : Nat → List Int → List Int → List Int
  | _, S, [] => S
  | k, S, n :: r => seenJ id (k + 1) (if (k : Int) = id then S else S.set k (max (S.getD k 0) n)) r
def okJoin (p : PhoneD) (ss : List StockD) (now : List Int) : Bool := p.right && (p.fit ss && seenR now)
def PhoneD.join (p : PhoneD) (ss : List StockD) (now : List Int) : PhoneD × List StockD × List NoteD × Int :=
  if okJoin p ss now then
    (if p.cut then ({ p with cut := false, H := [], S := seenJ p.id 0 p.S now }, joinGo p.id p.H ss, p.N, 0) else (p, ss, [], 7))
  else (p, ss, [], 1)
set_option maxHeartbeats 800000 in
theorem phone_join_no (p : Phone) (ss : Sl Stock) (now : Sl Int) (w : World) (hr : RdPhone (· < w.heap.size) w p) (hs : RdStocks (· < w.heap.size) w ss) (hw : Rd (· < w.heap.size) 1 ienc w now) (hb : ss.l.length * 40 ≤ 140737488355328) (hf : okJoin p.d (ss.l.map Stock.d) now.l = false) :
    Calls Try.prog 28 #[p.v, .slice ss.A ss.l.length ss.c, .slice now.A now.l.length now.c] w fun e w' => e = .returned (.tuple #[p.v, .slice ss.A ss.l.length ss.c, .slice none 0 0, .int .i64 1]) ∧ Below w.heap.size w w' := by
  obtain ⟨id, cut, H, N, S⟩ := p
  unfold okJoin at hf
  rcases hF : (Phone.d ⟨id, cut, H, N, S⟩).right
  · have HF := Lib.hid hF
    clear hF hf
    have HR := Lib.hid hr
    have HS := Lib.hid hs
    have HW := Lib.hid hw
    clear hr hs hw
    simp only [Phone.v]
    go_enter Try.func28, Try.ntmps28
    go_wp2_with fail
    refine (phone_right ⟨id, cut, H, N, S⟩ _ (HR.out.later (by repeat (first | (with_reducible exact Below.refl _ _) | ((with_reducible refine below_setr ?_ ?_); focus (first | (simp; done) | (simp; omega) | omega)) | ((with_reducible refine below_allocr ?_ ?_); focus (first | (simp; done) | (simp; omega) | omega)) | (with_reducible refine Below.drew ?_) | (with_reducible refine below_drewN ?_ _))) (Nat.le_refl _))).mono ?_
    rintro e w1 ⟨rfl, hb1⟩
    rw [HF.out]
    have K_a : Blk _ (w.heap.size) 33 #[.int .i64 id, .bool cut, .slice H.A H.l.length H.c, .slice N.A N.l.length N.c, .slice S.A S.l.length S.c] := blk_later hb1 (by simp [hp_past, hp_at, hp_other, hp_same, hp_drew, hp_drewN])
    obtain ⟨a0, a1, a2, a3, a4, af, az⟩ := Blk.b5 K_a
    have B_a := Lib.hid K_a
    clear K_a
    have K_b : Blk _ (w.heap.size + 1) 33 #[.int .i64 0, .bool false, .slice none 0 0, .slice none 0 0, .slice none 0 0] := blk_later hb1 (by simp [hp_past, hp_at, hp_other, hp_same, hp_drew, hp_drewN])
    obtain ⟨b0, b1, b2, b3, b4, bf, bz⟩ := Blk.b5 K_b
    have B_b := Lib.hid K_b
    clear K_b
    have hB1 : Below w.heap.size w w1 := (by repeat (first | (with_reducible exact Below.refl _ _) | ((with_reducible refine below_setr ?_ ?_); focus (first | (simp; done) | (simp; omega) | omega)) | ((with_reducible refine below_allocr ?_ ?_); focus (first | (simp; done) | (simp; omega) | omega)) | (with_reducible refine Below.drew ?_) | (with_reducible refine below_drewN ?_ _) | ((with_reducible apply below_via); focus (with_reducible assumption))))
    clear hb1
    go_wp2_with fail
    try simp only [Exit.inBlock, Exit.then]
    refine bodyPost_ret (v := .tuple #[.agg #[.int .i64 id, .bool cut, .slice H.A H.l.length H.c, .slice N.A N.l.length N.c, .slice S.A S.l.length S.c], .slice ss.A ss.l.length ss.c, .slice none 0 0, .int .i64 1]) ?_ rfl ⟨rfl, (by repeat (first | (with_reducible exact hB1) | (with_reducible exact Below.refl _ _) | ((with_reducible refine below_setr ?_ ?_); focus (first | (simp; done) | (simp; omega) | omega)) | ((with_reducible refine below_allocr ?_ ?_); focus (first | (simp; done) | (simp; omega) | omega)) | (with_reducible refine Below.drew ?_) | (with_reducible refine below_drewN ?_ _)))⟩
    simp [results, Try.results28, go_sem, a0, a1, a2, a3, a4, af, b0, b1, b2, b3, b4, bf, bz]
  · rw [hF, Bool.true_and] at hf
    have HF := Lib.hid hF
    clear hF
    rcases hG : (Phone.d ⟨id, cut, H, N, S⟩).fit (ss.l.map Stock.d)
    · have HG := Lib.hid hG
      clear hG hf
      have HR := Lib.hid hr
      have HS := Lib.hid hs
      have HW := Lib.hid hw
      clear hr hs hw
      simp only [Phone.v]
      go_enter Try.func28, Try.ntmps28
      go_wp2_with fail
      refine (phone_right ⟨id, cut, H, N, S⟩ _ (HR.out.later (by repeat (first | (with_reducible exact Below.refl _ _) | ((with_reducible refine below_setr ?_ ?_); focus (first | (simp; done) | (simp; omega) | omega)) | ((with_reducible refine below_allocr ?_ ?_); focus (first | (simp; done) | (simp; omega) | omega)) | (with_reducible refine Below.drew ?_) | (with_reducible refine below_drewN ?_ _))) (Nat.le_refl _))).mono ?_
      rintro e w1 ⟨rfl, hb1⟩
      rw [HF.out]
      have K_a : Blk _ (w.heap.size) 33 #[.int .i64 id, .bool cut, .slice H.A H.l.length H.c, .slice N.A N.l.length N.c, .slice S.A S.l.length S.c] := blk_later hb1 (by simp [hp_past, hp_at, hp_other, hp_same, hp_drew, hp_drewN])
      obtain ⟨a0, a1, a2, a3, a4, af, az⟩ := Blk.b5 K_a
      have B_a := Lib.hid K_a
      clear K_a
      have K_b : Blk _ (w.heap.size + 1) 33 #[.int .i64 0, .bool false, .slice none 0 0, .slice none 0 0, .slice none 0 0] := blk_later hb1 (by simp [hp_past, hp_at, hp_other, hp_same, hp_drew, hp_drewN])
      obtain ⟨b0, b1, b2, b3, b4, bf, bz⟩ := Blk.b5 K_b
      have B_b := Lib.hid K_b
      clear K_b
      have hB1 : Below w.heap.size w w1 := (by repeat (first | (with_reducible exact Below.refl _ _) | ((with_reducible refine below_setr ?_ ?_); focus (first | (simp; done) | (simp; omega) | omega)) | ((with_reducible refine below_allocr ?_ ?_); focus (first | (simp; done) | (simp; omega) | omega)) | (with_reducible refine Below.drew ?_) | (with_reducible refine below_drewN ?_ _) | ((with_reducible apply below_via); focus (with_reducible assumption))))
      clear hb1
      go_wp2_with fail
      refine (phone_fit ⟨id, cut, H, N, S⟩ ss _ (HR.out.later hB1 (Nat.le_refl _)) (HS.out.later hB1 (Nat.le_refl _)) (PhoneD.right_iff HF.out).H hb).mono ?_
      rintro e w2 ⟨rfl, hb2⟩
      rw [HG.out]
      clear a0 a1 a2 a3 a4 af b0 b1 b2 b3 b4 bf
      have K_a : Blk _ (w.heap.size) 33 #[.int .i64 id, .bool cut, .slice H.A H.l.length H.c, .slice N.A N.l.length N.c, .slice S.A S.l.length S.c] := blk_later hb2 (by simp [hp_past, hp_at, hp_other, hp_same, hp_drew, hp_drewN, B_a.out.eq, B_a.out.lt, hp_same B_a.out.eq])
      obtain ⟨a0, a1, a2, a3, a4, af, az⟩ := Blk.b5 K_a
      have B_a := Lib.hid K_a
      clear K_a
      have K_b : Blk _ (w.heap.size + 1) 33 #[.int .i64 0, .bool false, .slice none 0 0, .slice none 0 0, .slice none 0 0] := blk_later hb2 (by simp [hp_past, hp_at, hp_other, hp_same, hp_drew, hp_drewN, B_b.out.eq, B_b.out.lt, hp_same B_b.out.eq])
      obtain ⟨b0, b1, b2, b3, b4, bf, bz⟩ := Blk.b5 K_b
      have B_b := Lib.hid K_b
      clear K_b
      have hB2 : Below w.heap.size w w2 := (by repeat (first | (with_reducible exact hB1) | (with_reducible exact Below.refl _ _) | ((with_reducible refine below_setr ?_ ?_); focus (first | (simp; done) | (simp; omega) | omega)) | ((with_reducible refine below_allocr ?_ ?_); focus (first | (simp; done) | (simp; omega) | omega)) | (with_reducible refine Below.drew ?_) | (with_reducible refine below_drewN ?_ _) | ((with_reducible apply below_via); focus (with_reducible assumption))))
      clear hb2
      go_wp2_with fail
      try simp only [Exit.inBlock, Exit.then]
      refine bodyPost_ret (v := .tuple #[.agg #[.int .i64 id, .bool cut, .slice H.A H.l.length H.c, .slice N.A N.l.length N.c, .slice S.A S.l.length S.c], .slice ss.A ss.l.length ss.c, .slice none 0 0, .int .i64 1]) ?_ rfl ⟨rfl, (by repeat (first | (with_reducible exact hB2) | (with_reducible exact Below.refl _ _) | ((with_reducible refine below_setr ?_ ?_); focus (first | (simp; done) | (simp; omega) | omega)) | ((with_reducible refine below_allocr ?_ ?_); focus (first | (simp; done) | (simp; omega) | omega)) | (with_reducible refine Below.drew ?_) | (with_reducible refine below_drewN ?_ _)))⟩
      simp [results, Try.results28, go_sem, a0, a1, a2, a3, a4, af, b0, b1, b2, b3, b4, bf, bz]
    · rw [hG, Bool.true_and] at hf
      have HG := Lib.hid hG
      have HK := Lib.hid hf
      clear hG hf
      have HR := Lib.hid hr
      have HS := Lib.hid hs
      have HW := Lib.hid hw
      clear hr hs hw
      simp only [Phone.v]
      go_enter Try.func28, Try.ntmps28
      go_wp2_with fail
      refine (phone_right ⟨id, cut, H, N, S⟩ _ (HR.out.later (by repeat (first | (with_reducible exact Below.refl _ _) | ((with_reducible refine below_setr ?_ ?_); focus (first | (simp; done) | (simp; omega) | omega)) | ((with_reducible refine below_allocr ?_ ?_); focus (first | (simp; done) | (simp; omega) | omega)) | (with_reducible refine Below.drew ?_) | (with_reducible refine below_drewN ?_ _))) (Nat.le_refl _))).mono ?_
      rintro e w1 ⟨rfl, hb1⟩
      rw [HF.out]
      have K_a : Blk _ (w.heap.size) 33 #[.int .i64 id, .bool cut, .slice H.A H.l.length H.c, .slice N.A N.l.length N.c, .slice S.A S.l.length S.c] := blk_later hb1 (by simp [hp_past, hp_at, hp_other, hp_same, hp_drew, hp_drewN])
      obtain ⟨a0, a1, a2, a3, a4, af, az⟩ := Blk.b5 K_a
      have B_a := Lib.hid K_a
      clear K_a
      have K_b : Blk _ (w.heap.size + 1) 33 #[.int .i64 0, .bool false, .slice none 0 0, .slice none 0 0, .slice none 0 0] := blk_later hb1 (by simp [hp_past, hp_at, hp_other, hp_same, hp_drew, hp_drewN])
      obtain ⟨b0, b1, b2, b3, b4, bf, bz⟩ := Blk.b5 K_b
      have B_b := Lib.hid K_b
      clear K_b
      have hB1 : Below w.heap.size w w1 := (by repeat (first | (with_reducible exact Below.refl _ _) | ((with_reducible refine below_setr ?_ ?_); focus (first | (simp; done) | (simp; omega) | omega)) | ((with_reducible refine below_allocr ?_ ?_); focus (first | (simp; done) | (simp; omega) | omega)) | (with_reducible refine Below.drew ?_) | (with_reducible refine below_drewN ?_ _) | ((with_reducible apply below_via); focus (with_reducible assumption))))
      clear hb1
      go_wp2_with fail
      refine (phone_fit ⟨id, cut, H, N, S⟩ ss _ (HR.out.later hB1 (Nat.le_refl _)) (HS.out.later hB1 (Nat.le_refl _)) (PhoneD.right_iff HF.out).H hb).mono ?_
      rintro e w2 ⟨rfl, hb2⟩
      rw [HG.out]
      clear a0 a1 a2 a3 a4 af b0 b1 b2 b3 b4 bf
      have K_a : Blk _ (w.heap.size) 33 #[.int .i64 id, .bool cut, .slice H.A H.l.length H.c, .slice N.A N.l.length N.c, .slice S.A S.l.length S.c] := blk_later hb2 (by simp [hp_past, hp_at, hp_other, hp_same, hp_drew, hp_drewN, B_a.out.eq, B_a.out.lt, hp_same B_a.out.eq])
      obtain ⟨a0, a1, a2, a3, a4, af, az⟩ := Blk.b5 K_a
      have B_a := Lib.hid K_a
      clear K_a
      have K_b : Blk _ (w.heap.size + 1) 33 #[.int .i64 0, .bool false, .slice none 0 0, .slice none 0 0, .slice none 0 0] := blk_later hb2 (by simp [hp_past, hp_at, hp_other, hp_same, hp_drew, hp_drewN, B_b.out.eq, B_b.out.lt, hp_same B_b.out.eq])
      obtain ⟨b0, b1, b2, b3, b4, bf, bz⟩ := Blk.b5 K_b
      have B_b := Lib.hid K_b
      clear K_b
      have hB2 : Below w.heap.size w w2 := (by repeat (first | (with_reducible exact hB1) | (with_reducible exact Below.refl _ _) | ((with_reducible refine below_setr ?_ ?_); focus (first | (simp; done) | (simp; omega) | omega)) | ((with_reducible refine below_allocr ?_ ?_); focus (first | (simp; done) | (simp; omega) | omega)) | (with_reducible refine Below.drew ?_) | (with_reducible refine below_drewN ?_ _) | ((with_reducible apply below_via); focus (with_reducible assumption))))
      clear hb2
      go_wp2_with fail
      refine (phone_seen now _ (HW.out.below' hB2 (Nat.le_refl _))).mono ?_
      rintro e w3 ⟨rfl, hb3⟩
      rw [HK.out]
      clear a0 a1 a2 a3 a4 af b0 b1 b2 b3 b4 bf
      have K_a : Blk _ (w.heap.size) 33 #[.int .i64 id, .bool cut, .slice H.A H.l.length H.c, .slice N.A N.l.length N.c, .slice S.A S.l.length S.c] := blk_later hb3 (by simp [hp_past, hp_at, hp_other, hp_same, hp_drew, hp_drewN, B_a.out.eq, B_a.out.lt, hp_same B_a.out.eq])
      obtain ⟨a0, a1, a2, a3, a4, af, az⟩ := Blk.b5 K_a
      have B_a := Lib.hid K_a
      clear K_a
      have K_b : Blk _ (w.heap.size + 1) 33 #[.int .i64 0, .bool false, .slice none 0 0, .slice none 0 0, .slice none 0 0] := blk_later hb3 (by simp [hp_past, hp_at, hp_other, hp_same, hp_drew, hp_drewN, B_b.out.eq, B_b.out.lt, hp_same B_b.out.eq])
      obtain ⟨b0, b1, b2, b3, b4, bf, bz⟩ := Blk.b5 K_b
      have B_b := Lib.hid K_b
      clear K_b
      have hB3 : Below w.heap.size w w3 := (by repeat (first | (with_reducible exact hB2) | (with_reducible exact Below.refl _ _) | ((with_reducible refine below_setr ?_ ?_); focus (first | (simp; done) | (simp; omega) | omega)) | ((with_reducible refine below_allocr ?_ ?_); focus (first | (simp; done) | (simp; omega) | omega)) | (with_reducible refine Below.drew ?_) | (with_reducible refine below_drewN ?_ _) | ((with_reducible apply below_via); focus (with_reducible assumption))))
      clear hb3
      go_wp2_with fail
      try simp only [Exit.inBlock, Exit.then]
      refine bodyPost_ret (v := .tuple #[.agg #[.int .i64 id, .bool cut, .slice H.A H.l.length H.c, .slice N.A N.l.length N.c, .slice S.A S.l.length S.c], .slice ss.A ss.l.length ss.c, .slice none 0 0, .int .i64 1]) ?_ rfl ⟨rfl, (by repeat (first | (with_reducible exact hB3) | (with_reducible exact Below.refl _ _) | ((with_reducible refine below_setr ?_ ?_); focus (first | (simp; done) | (simp; omega) | omega)) | ((with_reducible refine below_allocr ?_ ?_); focus (first | (simp; done) | (simp; omega) | omega)) | (with_reducible refine Below.drew ?_) | (with_reducible refine below_drewN ?_ _)))⟩
      simp [results, Try.results28, go_sem, a0, a1, a2, a3, a4, af, b0, b1, b2, b3, b4, bf, bz]
set_option maxHeartbeats 800000 in
theorem phone_join_on (p : Phone) (ss : Sl Stock) (now : Sl Int) (w : World) (hr : RdPhone (· < w.heap.size) w p) (hs : RdStocks (· < w.heap.size) w ss) (hw : Rd (· < w.heap.size) 1 ienc w now) (hb : ss.l.length * 40 ≤ 140737488355328) (HF : Hid (p.d.right = true)) (HG : Hid (p.d.fit (ss.l.map Stock.d) = true)) (HK : Hid (seenR now.l = true)) (hc : p.cut = false) :
    Calls Try.prog 28 #[p.v, .slice ss.A ss.l.length ss.c, .slice now.A now.l.length now.c] w fun e w' => e = .returned (.tuple #[p.v, .slice ss.A ss.l.length ss.c, .slice none 0 0, .int .i64 7]) ∧ Below w.heap.size w w' := by
  obtain ⟨id, cut, H, N, S⟩ := p
  simp only at hc
  subst hc
  have HR := Lib.hid hr
  have HS := Lib.hid hs
  have HW := Lib.hid hw
  clear hr hs hw
  simp only [Phone.v]
  go_enter Try.func28, Try.ntmps28
  go_wp2_with fail
  refine (phone_right ⟨id, false, H, N, S⟩ _ (HR.out.later (by repeat (first | (with_reducible exact Below.refl _ _) | ((with_reducible refine below_setr ?_ ?_); focus (first | (simp; done) | (simp; omega) | omega)) | ((with_reducible refine below_allocr ?_ ?_); focus (first | (simp; done) | (simp; omega) | omega)) | (with_reducible refine Below.drew ?_) | (with_reducible refine below_drewN ?_ _))) (Nat.le_refl _))).mono ?_
  rintro e w1 ⟨rfl, hb1⟩
  rw [HF.out]
  have K_a : Blk _ (w.heap.size) 33 #[.int .i64 id, .bool false, .slice H.A H.l.length H.c, .slice N.A N.l.length N.c, .slice S.A S.l.length S.c] := blk_later hb1 (by simp [hp_past, hp_at, hp_other, hp_same, hp_drew, hp_drewN])
  obtain ⟨a0, a1, a2, a3, a4, af, az⟩ := Blk.b5 K_a
  have B_a := Lib.hid K_a
  clear K_a
  have K_b : Blk _ (w.heap.size + 1) 33 #[.int .i64 0, .bool false, .slice none 0 0, .slice none 0 0, .slice none 0 0] := blk_later hb1 (by simp [hp_past, hp_at, hp_other, hp_same, hp_drew, hp_drewN])
  obtain ⟨b0, b1, b2, b3, b4, bf, bz⟩ := Blk.b5 K_b
  have B_b := Lib.hid K_b
  clear K_b
  have hB1 : Below w.heap.size w w1 := (by repeat (first | (with_reducible exact Below.refl _ _) | ((with_reducible refine below_setr ?_ ?_); focus (first | (simp; done) | (simp; omega) | omega)) | ((with_reducible refine below_allocr ?_ ?_); focus (first | (simp; done) | (simp; omega) | omega)) | (with_reducible refine Below.drew ?_) | (with_reducible refine below_drewN ?_ _) | ((with_reducible apply below_via); focus (with_reducible assumption))))
  clear hb1
  go_wp2_with fail
  refine (phone_fit ⟨id, false, H, N, S⟩ ss _ (HR.out.later hB1 (Nat.le_refl _)) (HS.out.later hB1 (Nat.le_refl _)) (PhoneD.right_iff HF.out).H hb).mono ?_
  rintro e w2 ⟨rfl, hb2⟩
  rw [HG.out]
  clear a0 a1 a2 a3 a4 af b0 b1 b2 b3 b4 bf
  have K_a : Blk _ (w.heap.size) 33 #[.int .i64 id, .bool false, .slice H.A H.l.length H.c, .slice N.A N.l.length N.c, .slice S.A S.l.length S.c] := blk_later hb2 (by simp [hp_past, hp_at, hp_other, hp_same, hp_drew, hp_drewN, B_a.out.eq, B_a.out.lt, hp_same B_a.out.eq])
  obtain ⟨a0, a1, a2, a3, a4, af, az⟩ := Blk.b5 K_a
  have B_a := Lib.hid K_a
  clear K_a
  have K_b : Blk _ (w.heap.size + 1) 33 #[.int .i64 0, .bool false, .slice none 0 0, .slice none 0 0, .slice none 0 0] := blk_later hb2 (by simp [hp_past, hp_at, hp_other, hp_same, hp_drew, hp_drewN, B_b.out.eq, B_b.out.lt, hp_same B_b.out.eq])
  obtain ⟨b0, b1, b2, b3, b4, bf, bz⟩ := Blk.b5 K_b
  have B_b := Lib.hid K_b
  clear K_b
  have hB2 : Below w.heap.size w w2 := (by repeat (first | (with_reducible exact hB1) | (with_reducible exact Below.refl _ _) | ((with_reducible refine below_setr ?_ ?_); focus (first | (simp; done) | (simp; omega) | omega)) | ((with_reducible refine below_allocr ?_ ?_); focus (first | (simp; done) | (simp; omega) | omega)) | (with_reducible refine Below.drew ?_) | (with_reducible refine below_drewN ?_ _) | ((with_reducible apply below_via); focus (with_reducible assumption))))
  clear hb2
  go_wp2_with fail
  refine (phone_seen now _ (HW.out.below' hB2 (Nat.le_refl _))).mono ?_
  rintro e w3 ⟨rfl, hb3⟩
  rw [HK.out]
  clear a0 a1 a2 a3 a4 af b0 b1 b2 b3 b4 bf
  have K_a : Blk _ (w.heap.size) 33 #[.int .i64 id, .bool false, .slice H.A H.l.length H.c, .slice N.A N.l.length N.c, .slice S.A S.l.length S.c] := blk_later hb3 (by simp [hp_past, hp_at, hp_other, hp_same, hp_drew, hp_drewN, B_a.out.eq, B_a.out.lt, hp_same B_a.out.eq])
  obtain ⟨a0, a1, a2, a3, a4, af, az⟩ := Blk.b5 K_a
  have B_a := Lib.hid K_a
  clear K_a
  have K_b : Blk _ (w.heap.size + 1) 33 #[.int .i64 0, .bool false, .slice none 0 0, .slice none 0 0, .slice none 0 0] := blk_later hb3 (by simp [hp_past, hp_at, hp_other, hp_same, hp_drew, hp_drewN, B_b.out.eq, B_b.out.lt, hp_same B_b.out.eq])
  obtain ⟨b0, b1, b2, b3, b4, bf, bz⟩ := Blk.b5 K_b
  have B_b := Lib.hid K_b
  clear K_b
  have hB3 : Below w.heap.size w w3 := (by repeat (first | (with_reducible exact hB2) | (with_reducible exact Below.refl _ _) | ((with_reducible refine below_setr ?_ ?_); focus (first | (simp; done) | (simp; omega) | omega)) | ((with_reducible refine below_allocr ?_ ?_); focus (first | (simp; done) | (simp; omega) | omega)) | (with_reducible refine Below.drew ?_) | (with_reducible refine below_drewN ?_ _) | ((with_reducible apply below_via); focus (with_reducible assumption))))
  clear hb3
  go_wp2_with fail
  try simp only [Exit.inBlock, Exit.then]
  refine bodyPost_ret (v := .tuple #[.agg #[.int .i64 id, .bool false, .slice H.A H.l.length H.c, .slice N.A N.l.length N.c, .slice S.A S.l.length S.c], .slice ss.A ss.l.length ss.c, .slice none 0 0, .int .i64 7]) ?_ rfl ⟨rfl, (by repeat (first | (with_reducible exact hB3) | (with_reducible exact Below.refl _ _) | ((with_reducible refine below_setr ?_ ?_); focus (first | (simp; done) | (simp; omega) | omega)) | ((with_reducible refine below_allocr ?_ ?_); focus (first | (simp; done) | (simp; omega) | omega)) | (with_reducible refine Below.drew ?_) | (with_reducible refine below_drewN ?_ _)))⟩
  simp [results, Try.results28, go_sem, a0, a1, a2, a3, a4, af, b0, b1, b2, b3, b4, bf, bz]
end Go.Proofs.Ythnblhbdfpmolaa
