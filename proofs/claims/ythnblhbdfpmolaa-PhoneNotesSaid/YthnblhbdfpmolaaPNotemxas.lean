/- Walks of package phone: Lend, its cases together. -/
import Derived.Test.YthnblhbdfpmolaaPNotemxar
import Derived.Test.YthnblhbdfpmolaaPNotemxao
namespace Go.Proofs.Ythnblhbdfpmolaa
open Go.RowKit
theorem StockD.lend_fits {x : StockD} {p n : Int} (h : (x.lend p n).2 = 0) : x.fits p n = true := by
  unfold StockD.lend at h
  split at h
  · assumption
  · simp at h
theorem phone_lend_o (p : Phone) (ss : Sl Stock) (k n : Int) (w : World) (hr : RdPhone (· < w.heap.size) w p) (hs : RdStocks (· < w.heap.size) w ss) (hb : ss.l.length * 40 ≤ 140737488355328) :
    Calls Try.prog 21 #[p.v, .slice ss.A ss.l.length ss.c, .int .i64 k, .int .i64 n] w fun e w' => ∃ (p' : Phone) (s' : Sl Stock), e = .returned (.tuple #[p'.v, .slice s'.A s'.l.length s'.c, .int .i64 (p.d.lend (ss.l.map Stock.d) k n).2.2]) ∧ p'.d = (p.d.lend (ss.l.map Stock.d) k n).1 ∧ s'.l.map Stock.d = (p.d.lend (ss.l.map Stock.d) k n).2.1 ∧
      Hid (((p.d.lend (ss.l.map Stock.d) k n).2.2 ≠ 0 ∧ p' = p ∧ s' = ss) ∨ ((p.d.lend (ss.l.map Stock.d) k n).2.2 = 0 ∧ RdPhone (fun b => w.heap.size ≤ b ∧ b < w'.heap.size) w' p' ∧ RdStocks (fun b => w.heap.size ≤ b ∧ b < w'.heap.size) w' s' ∧ Own w.heap.size 66 3 Stock.enc w' s' ∧ SepR p' s')) ∧ Below w.heap.size w w' := by
  have back : ∀ {q : Int}, q ≠ 0 → p.d.lend (ss.l.map Stock.d) k n = (p.d, ss.l.map Stock.d, q) → Calls Try.prog 21 #[p.v, .slice ss.A ss.l.length ss.c, .int .i64 k, .int .i64 n] w (fun e w' => e = .returned (.tuple #[p.v, .slice ss.A ss.l.length ss.c, .int .i64 q]) ∧ Below w.heap.size w w') →
      Calls Try.prog 21 #[p.v, .slice ss.A ss.l.length ss.c, .int .i64 k, .int .i64 n] w fun e w' => ∃ (p' : Phone) (s' : Sl Stock), e = .returned (.tuple #[p'.v, .slice s'.A s'.l.length s'.c, .int .i64 (p.d.lend (ss.l.map Stock.d) k n).2.2]) ∧ p'.d = (p.d.lend (ss.l.map Stock.d) k n).1 ∧ s'.l.map Stock.d = (p.d.lend (ss.l.map Stock.d) k n).2.1 ∧
      Hid (((p.d.lend (ss.l.map Stock.d) k n).2.2 ≠ 0 ∧ p' = p ∧ s' = ss) ∨ ((p.d.lend (ss.l.map Stock.d) k n).2.2 = 0 ∧ RdPhone (fun b => w.heap.size ≤ b ∧ b < w'.heap.size) w' p' ∧ RdStocks (fun b => w.heap.size ≤ b ∧ b < w'.heap.size) w' s' ∧ Own w.heap.size 66 3 Stock.enc w' s' ∧ SepR p' s')) ∧ Below w.heap.size w w' := by
    intro q hq0 hq hc
    rw [hq]
    refine hc.mono ?_
    rintro e w' ⟨rfl, hb⟩
    exact ⟨p, ss, rfl, rfl, rfl, .inl ⟨hq0, rfl, rfl⟩, hb⟩
  rcases hf : okLend p.d (ss.l.map Stock.d) k
  · exact back (by simp) (by unfold PhoneD.lend; rw [hf]; rfl) (phone_lend_no p ss k n w hr hs hb hf)
  · have hf' := hf
    simp only [okLend, Bool.and_eq_true, List.length_map] at hf'
    obtain ⟨hF, hG, hk⟩ := hf'
    have hk' := rngB_iff.1 hk
    obtain ⟨j, rfl⟩ := Int.eq_ofNat_of_zero_le hk'.1
    have hj : j < ss.l.length := by omega
    have hR := PhoneD.right_iff hF
    obtain ⟨hl, hso, hal⟩ := holdsR_iff hR.H
    rcases hc : p.cut
    · have hc' : p.d.cut = false := hc
      have hxj : ss.l[j]? = some ss.l[j] := List.getElem?_eq_getElem hj
      generalize ss.l[j] = x at hxj
      have hxd : (ss.l.map Stock.d)[((j : Nat) : Int).toNat]? = some x.d := by simp [hxj]
      have hle : p.d.lend (ss.l.map Stock.d) j n = if !hhas p.d.H j && decide (p.d.H.length = 100) then (p.d, ss.l.map Stock.d, 6) else if (x.d.lend p.d.id n).2 = 0 then ({ p.d with H := addH p.d.H j n }, (ss.l.map Stock.d).set j (x.d.lend p.d.id n).1, 0) else (p.d, ss.l.map Stock.d, (x.d.lend p.d.id n).2) := by
        unfold PhoneD.lend
        rw [hf, if_pos rfl, if_neg (by rw [hc']; simp), hxd]
        simp only [Int.toNat_natCast]
      by_cases hfu : (!hhas p.d.H j && decide (p.d.H.length = 100)) = true
      · have h2 := hfu
        simp only [Bool.and_eq_true, Bool.not_eq_true', decide_eq_true_eq] at h2
        exact back (by simp) (by rw [hle, if_pos hfu]) (phone_lend_full p ss j n w hr hs hb hF hG hk hc h2.1 h2.2)
      · rw [hle, if_neg hfu]
        rw [hle, if_neg hfu] at back
        rcases hh : hhas p.H.l j
        · have h99 : p.H.l.length ≤ 99 := by
            have h2 := hfu
            have hh' : hhas p.d.H j = false := hh
            rw [hh'] at h2
            simp only [Bool.not_false, Bool.true_and, decide_eq_true_eq] at h2
            have h3 : p.H.l.length ≤ 100 := hl
            have h4 : ¬ p.H.l.length = 100 := h2
            omega
          by_cases hE : (x.d.lend p.d.id n).2 = 0
          · rw [if_pos hE]
            have hn := StockD.fits_iff (StockD.lend_fits hE)
            refine (phone_lend_new p ss j x n (hidx p.H.l j) w hr hs hb hF hG hk hj hc hh (Lib.hid rfl) (hidx_le _ _) h99 hn.2.2.2.1 hn.2.2.2.2 hxj hE).mono ?_
            rintro e w' ⟨p', s', rfl, hd, hm, h1, h2, h4, h3⟩
            refine ⟨p', s', rfl, ?_, hm, .inr ⟨rfl, h1, h2, h4.1, h4.2⟩, h3⟩
            rw [hd]
            have hh' : hhas p.d.H j = false := hh
            simp only [addH, hh']
            rfl
          · rw [if_neg hE] at back ⊢
            exact back hE rfl (phone_lend_err p ss j x n w hr hs hb hF hG hk hj hc false hh (by simp; omega) hxj hE)
        · by_cases hE : (x.d.lend p.d.id n).2 = 0
          · rw [if_pos hE]
            have hn := StockD.fits_iff (StockD.lend_fits hE)
            obtain ⟨hx, hhx, _⟩ := hidx_at hso hh
            obtain ⟨_, x1, x2, _⟩ := hal hx (List.mem_of_getElem? hhx)
            refine (phone_lend_had p ss j x n (hidx p.H.l j) hx w hr hs hb hF hG hk hj hc hh (Lib.hid rfl) hhx x1 x2 hn.2.2.2.1 hn.2.2.2.2 hxj hE).mono ?_
            rintro e w' ⟨p', s', rfl, hd, hm, h1, h2, h4, h3⟩
            refine ⟨p', s', rfl, ?_, hm, .inr ⟨rfl, h1, h2, h4.1, h4.2⟩, h3⟩
            rw [hd]
            have hh' : hhas p.d.H j = true := hh
            have hhx' : p.d.H[hidx p.d.H j]? = some hx := hhx
            simp only [addH, hh', if_true, hhx']
            rfl
          · rw [if_neg hE] at back ⊢
            exact back hE rfl (phone_lend_err p ss j x n w hr hs hb hF hG hk hj hc true hh rfl hxj hE)
    · have hc' : p.d.cut = true := hc
      exact back (by simp) (by unfold PhoneD.lend; rw [hf, if_pos rfl, if_pos hc']) (phone_lend_cut p ss j n w hr hs hb hF hG hk hc)
theorem phone_lend_s (p : Phone) (ss : Sl Stock) (k n : Int) (w : World) (hr : RdPhone (· < w.heap.size) w p) (hs : RdStocks (· < w.heap.size) w ss) (hb : ss.l.length * 40 ≤ 140737488355328) :
    Calls Try.prog 21 #[p.v, .slice ss.A ss.l.length ss.c, .int .i64 k, .int .i64 n] w fun e w' => ∃ (p' : Phone) (s' : Sl Stock), e = .returned (.tuple #[p'.v, .slice s'.A s'.l.length s'.c, .int .i64 (p.d.lend (ss.l.map Stock.d) k n).2.2]) ∧ p'.d = (p.d.lend (ss.l.map Stock.d) k n).1 ∧ s'.l.map Stock.d = (p.d.lend (ss.l.map Stock.d) k n).2.1 ∧
      Hid ((p' = p ∧ s' = ss) ∨ (RdPhone (fun b => w.heap.size ≤ b ∧ b < w'.heap.size) w' p' ∧ RdStocks (fun b => w.heap.size ≤ b ∧ b < w'.heap.size) w' s')) ∧ Below w.heap.size w w' := by
  refine (phone_lend_o p ss k n w hr hs hb).mono ?_
  rintro e w' ⟨p', s', h1, h2, h3, h4, h5⟩
  refine ⟨p', s', h1, h2, h3, ?_, h5⟩
  rcases h4.out with ⟨_, h, h'⟩ | ⟨_, h, h', _⟩
  · exact .inl ⟨h, h'⟩
  · exact .inr ⟨h, h'⟩
theorem phone_lend (p : Phone) (ss : Sl Stock) (k n : Int) (w : World) (hr : RdPhone (· < w.heap.size) w p) (hs : RdStocks (· < w.heap.size) w ss) (hb : ss.l.length * 40 ≤ 140737488355328) :
    Calls Try.prog 21 #[p.v, .slice ss.A ss.l.length ss.c, .int .i64 k, .int .i64 n] w fun e w' => ∃ (p' : Phone) (s' : Sl Stock), e = .returned (.tuple #[p'.v, .slice s'.A s'.l.length s'.c, .int .i64 (p.d.lend (ss.l.map Stock.d) k n).2.2]) ∧ p'.d = (p.d.lend (ss.l.map Stock.d) k n).1 ∧ s'.l.map Stock.d = (p.d.lend (ss.l.map Stock.d) k n).2.1 ∧
      RdPhone (· < w'.heap.size) w' p' ∧ RdStocks (· < w'.heap.size) w' s' ∧ Below w.heap.size w w' := by
  refine (phone_lend_s p ss k n w hr hs hb).mono ?_
  rintro e w' ⟨p', s', h1, h2, h3, h4, h5⟩
  refine ⟨p', s', h1, h2, h3, ?_, ?_, h5⟩
  · rcases h4.out with ⟨rfl, rfl⟩ | ⟨h4, _⟩
    · exact hr.later h5 (Nat.le_refl _)
    · exact h4.mono fun b hb => hb.2
  · rcases h4.out with ⟨rfl, rfl⟩ | ⟨_, h4⟩
    · exact hs.later h5 (Nat.le_refl _)
    · exact h4.mono fun b hb => hb.2
end Go.Proofs.Ythnblhbdfpmolaa
/- Walks of package phone: Join, the ways back. -/
namespace Go.Proofs.Ythnblhbdfpmolaa
open Go.RowKit
def joinS (id : Int) (h : Hold) (s : StockD) : StockD := ((if 0 < h.s then (s.use id h.s).1 else s).give id).1
def joinGo (id : Int) : List Hold → List StockD → List StockD
  | [], ss => ss
  | h :: r, ss => joinGo id r (match ss[h.st.toNat]? with | some s => ss.set h.st.toNat (joinS id h s) | none => ss)
def seenJ (id : Int) : Nat → List Int → List Int → List Int
  | _, S, [] => S
  | k, S, n :: r => seenJ id (k + 1) (if (k : Int) = id then S else S.set k (max (S.getD k 0) n)) r
def okJoin (p : PhoneD) (ss : List StockD) (now : List Int) : Bool := p.right && (p.fit ss && seenR now)
def PhoneD.join (p : PhoneD) (ss : List StockD) (now : List Int) : PhoneD × List StockD × List NoteD × Int :=
  if okJoin p ss now then
    (if p.cut then ({ p with cut := false, H := [], S := seenJ p.id 0 p.S now }, joinGo p.id p.H ss, p.N, 0) else (p, ss, [], 7))
  else (p, ss, [], 1)
set_option maxHeartbeats 800000 in
theorem phone_join_no (p : Phone) (ss : Sl Stock) (now : Sl Int) (w : World) (hr : RdPhone (· < w.heap.size) w p) (hs : RdStocks (· < w.heap.size) w ss) (hw : Rd (· < w.heap.size) 1 ienc w now) (hb : ss.l.length * 40 ≤ 140737488355328) (hf : okJoin p.d (ss.l.map Stock.d) now.l = false) :
    Calls Try.prog 28 #[p.v, .slice ss.A ss.l.length ss.c, .slice now.A now.l.length now.c] w fun e w' => e = .returned (.tuple #[p.v, .slice ss.A ss.l.length ss.c, .slice none 0 0, .int .i64 1]) ∧ Below w.heap.size w w' := by
  obtain ⟨id, cut, H, N, S⟩ := p
  unfold okJoin at hf
  rcases hF : (Phone.d ⟨id, cut, H, N, S⟩).right
  · have HF := Lib.hid hF
    clear hF hf
    have HR := Lib.hid hr
    have HS := Lib.hid hs
    have HW := Lib.hid hw
    clear hr hs hw
    simp only [Phone.v]
    go_enter Try.func28, Try.ntmps28
    go_wp2_with fail
    refine (phone_right ⟨id, cut, H, N, S⟩ _ (HR.out.later qbl (Nat.le_refl _))).mono ?_
    rintro e w1 ⟨rfl, hb1⟩
    rw [HF.out]
    have K_a : Blk _ (w.heap.size) 33 #[.int .i64 id, .bool cut, .slice H.A H.l.length H.c, .slice N.A N.l.length N.c, .slice S.A S.l.length S.c] := qkb hb1
    obtain ⟨a0, a1, a2, a3, a4, af, az⟩ := Blk.b5 K_a
    have B_a := Lib.hid K_a
    clear K_a
    have K_b : Blk _ (w.heap.size + 1) 33 #[.int .i64 0, .bool false, .slice none 0 0, .slice none 0 0, .slice none 0 0] := qkb hb1
    obtain ⟨b0, b1, b2, b3, b4, bf, bz⟩ := Blk.b5 K_b
    have B_b := Lib.hid K_b
    clear K_b
    have hB1 : Below w.heap.size w w1 := qbv
    clear hb1
    go_wp2_with fail
    try simp only [Exit.inBlock, Exit.then]
    refine bodyPost_ret (v := .tuple #[.agg #[.int .i64 id, .bool cut, .slice H.A H.l.length H.c, .slice N.A N.l.length N.c, .slice S.A S.l.length S.c], .slice ss.A ss.l.length ss.c, .slice none 0 0, .int .i64 1]) ?_ rfl ⟨rfl, qbh⟩
    simp [results, Try.results28, go_sem, a0, a1, a2, a3, a4, af, b0, b1, b2, b3, b4, bf, bz]
  · rw [hF, Bool.true_and] at hf
    have HF := Lib.hid hF
    clear hF
    rcases hG : (Phone.d ⟨id, cut, H, N, S⟩).fit (ss.l.map Stock.d)
    · have HG := Lib.hid hG
      clear hG hf
      have HR := Lib.hid hr
      have HS := Lib.hid hs
      have HW := Lib.hid hw
      clear hr hs hw
      simp only [Phone.v]
      go_enter Try.func28, Try.ntmps28
      go_wp2_with fail
      refine (phone_right ⟨id, cut, H, N, S⟩ _ (HR.out.later qbl (Nat.le_refl _))).mono ?_
      rintro e w1 ⟨rfl, hb1⟩
      rw [HF.out]
      have K_a : Blk _ (w.heap.size) 33 #[.int .i64 id, .bool cut, .slice H.A H.l.length H.c, .slice N.A N.l.length N.c, .slice S.A S.l.length S.c] := qkb hb1
      obtain ⟨a0, a1, a2, a3, a4, af, az⟩ := Blk.b5 K_a
      have B_a := Lib.hid K_a
      clear K_a
      have K_b : Blk _ (w.heap.size + 1) 33 #[.int .i64 0, .bool false, .slice none 0 0, .slice none 0 0, .slice none 0 0] := qkb hb1
      obtain ⟨b0, b1, b2, b3, b4, bf, bz⟩ := Blk.b5 K_b
      have B_b := Lib.hid K_b
      clear K_b
      have hB1 : Below w.heap.size w w1 := qbv
      clear hb1
      go_wp2_with fail
      refine (phone_fit ⟨id, cut, H, N, S⟩ ss _ (HR.out.later hB1 (Nat.le_refl _)) (HS.out.later hB1 (Nat.le_refl _)) (PhoneD.right_iff HF.out).H hb).mono ?_
      rintro e w2 ⟨rfl, hb2⟩
      rw [HG.out]
      clear a0 a1 a2 a3 a4 af b0 b1 b2 b3 b4 bf
      have K_a : Blk _ (w.heap.size) 33 #[.int .i64 id, .bool cut, .slice H.A H.l.length H.c, .slice N.A N.l.length N.c, .slice S.A S.l.length S.c] := qkc B_a hb2
      obtain ⟨a0, a1, a2, a3, a4, af, az⟩ := Blk.b5 K_a
      have B_a := Lib.hid K_a
      clear K_a
      have K_b : Blk _ (w.heap.size + 1) 33 #[.int .i64 0, .bool false, .slice none 0 0, .slice none 0 0, .slice none 0 0] := qkc B_b hb2
      obtain ⟨b0, b1, b2, b3, b4, bf, bz⟩ := Blk.b5 K_b
      have B_b := Lib.hid K_b
      clear K_b
      have hB2 : Below w.heap.size w w2 := qbv
      clear hb2
      go_wp2_with fail
      try simp only [Exit.inBlock, Exit.then]
      refine bodyPost_ret (v := .tuple #[.agg #[.int .i64 id, .bool cut, .slice H.A H.l.length H.c, .slice N.A N.l.length N.c, .slice S.A S.l.length S.c], .slice ss.A ss.l.length ss.c, .slice none 0 0, .int .i64 1]) ?_ rfl ⟨rfl, qbh⟩
      simp [results, Try.results28, go_sem, a0, a1, a2, a3, a4, af, b0, b1, b2, b3, b4, bf, bz]
    · rw [hG, Bool.true_and] at hf
      have HG := Lib.hid hG
      have HK := Lib.hid hf
      clear hG hf
      have HR := Lib.hid hr
      have HS := Lib.hid hs
      have HW := Lib.hid hw
      clear hr hs hw
      simp only [Phone.v]
      go_enter Try.func28, Try.ntmps28
      go_wp2_with fail
      refine (phone_right ⟨id, cut, H, N, S⟩ _ (HR.out.later qbl (Nat.le_refl _))).mono ?_
      rintro e w1 ⟨rfl, hb1⟩
      rw [HF.out]
      have K_a : Blk _ (w.heap.size) 33 #[.int .i64 id, .bool cut, .slice H.A H.l.length H.c, .slice N.A N.l.length N.c, .slice S.A S.l.length S.c] := qkb hb1
      obtain ⟨a0, a1, a2, a3, a4, af, az⟩ := Blk.b5 K_a
      have B_a := Lib.hid K_a
      clear K_a
      have K_b : Blk _ (w.heap.size + 1) 33 #[.int .i64 0, .bool false, .slice none 0 0, .slice none 0 0, .slice none 0 0] := qkb hb1
      obtain ⟨b0, b1, b2, b3, b4, bf, bz⟩ := Blk.b5 K_b
      have B_b := Lib.hid K_b
      clear K_b
      have hB1 : Below w.heap.size w w1 := qbv
      clear hb1
      go_wp2_with fail
      refine (phone_fit ⟨id, cut, H, N, S⟩ ss _ (HR.out.later hB1 (Nat.le_refl _)) (HS.out.later hB1 (Nat.le_refl _)) (PhoneD.right_iff HF.out).H hb).mono ?_
      rintro e w2 ⟨rfl, hb2⟩
      rw [HG.out]
      clear a0 a1 a2 a3 a4 af b0 b1 b2 b3 b4 bf
      have K_a : Blk _ (w.heap.size) 33 #[.int .i64 id, .bool cut, .slice H.A H.l.length H.c, .slice N.A N.l.length N.c, .slice S.A S.l.length S.c] := qkc B_a hb2
      obtain ⟨a0, a1, a2, a3, a4, af, az⟩ := Blk.b5 K_a
      have B_a := Lib.hid K_a
      clear K_a
      have K_b : Blk _ (w.heap.size + 1) 33 #[.int .i64 0, .bool false, .slice none 0 0, .slice none 0 0, .slice none 0 0] := qkc B_b hb2
      obtain ⟨b0, b1, b2, b3, b4, bf, bz⟩ := Blk.b5 K_b
      have B_b := Lib.hid K_b
      clear K_b
      have hB2 : Below w.heap.size w w2 := qbv
      clear hb2
      go_wp2_with fail
      refine (phone_seen now _ (HW.out.below' hB2 (Nat.le_refl _))).mono ?_
      rintro e w3 ⟨rfl, hb3⟩
      rw [HK.out]
      clear a0 a1 a2 a3 a4 af b0 b1 b2 b3 b4 bf
      have K_a : Blk _ (w.heap.size) 33 #[.int .i64 id, .bool cut, .slice H.A H.l.length H.c, .slice N.A N.l.length N.c, .slice S.A S.l.length S.c] := qkc B_a hb3
      obtain ⟨a0, a1, a2, a3, a4, af, az⟩ := Blk.b5 K_a
      have B_a := Lib.hid K_a
      clear K_a
      have K_b : Blk _ (w.heap.size + 1) 33 #[.int .i64 0, .bool false, .slice none 0 0, .slice none 0 0, .slice none 0 0] := qkc B_b hb3
      obtain ⟨b0, b1, b2, b3, b4, bf, bz⟩ := Blk.b5 K_b
      have B_b := Lib.hid K_b
      clear K_b
      have hB3 : Below w.heap.size w w3 := qbv
      clear hb3
      go_wp2_with fail
      try simp only [Exit.inBlock, Exit.then]
      refine bodyPost_ret (v := .tuple #[.agg #[.int .i64 id, .bool cut, .slice H.A H.l.length H.c, .slice N.A N.l.length N.c, .slice S.A S.l.length S.c], .slice ss.A ss.l.length ss.c, .slice none 0 0, .int .i64 1]) ?_ rfl ⟨rfl, qbh⟩
      simp [results, Try.results28, go_sem, a0, a1, a2, a3, a4, af, b0, b1, b2, b3, b4, bf, bz]
set_option maxHeartbeats 800000 in
theorem phone_join_on (p : Phone) (ss : Sl Stock) (now : Sl Int) (w : World) (hr : RdPhone (· < w.heap.size) w p) (hs : RdStocks (· < w.heap.size) w ss) (hw : Rd (· < w.heap.size) 1 ienc w now) (hb : ss.l.length * 40 ≤ 140737488355328) (HF : Hid (p.d.right = true)) (HG : Hid (p.d.fit (ss.l.map Stock.d) = true)) (HK : Hid (seenR now.l = true)) (hc : p.cut = false) :
    Calls Try.prog 28 #[p.v, .slice ss.A ss.l.length ss.c, .slice now.A now.l.length now.c] w fun e w' => e = .returned (.tuple #[p.v, .slice ss.A ss.l.length ss.c, .slice none 0 0, .int .i64 7]) ∧ Below w.heap.size w w' := by
  obtain ⟨id, cut, H, N, S⟩ := p
  simp only at hc
  subst hc
  have HR := Lib.hid hr
  have HS := Lib.hid hs
  have HW := Lib.hid hw
  clear hr hs hw
  simp only [Phone.v]
  go_enter Try.func28, Try.ntmps28
  go_wp2_with fail
  refine (phone_right ⟨id, false, H, N, S⟩ _ (HR.out.later qbl (Nat.le_refl _))).mono ?_
  rintro e w1 ⟨rfl, hb1⟩
  rw [HF.out]
  have K_a : Blk _ (w.heap.size) 33 #[.int .i64 id, .bool false, .slice H.A H.l.length H.c, .slice N.A N.l.length N.c, .slice S.A S.l.length S.c] := qkb hb1
  obtain ⟨a0, a1, a2, a3, a4, af, az⟩ := Blk.b5 K_a
  have B_a := Lib.hid K_a
  clear K_a
  have K_b : Blk _ (w.heap.size + 1) 33 #[.int .i64 0, .bool false, .slice none 0 0, .slice none 0 0, .slice none 0 0] := qkb hb1
  obtain ⟨b0, b1, b2, b3, b4, bf, bz⟩ := Blk.b5 K_b
  have B_b := Lib.hid K_b
  clear K_b
  have hB1 : Below w.heap.size w w1 := qbv
  clear hb1
  go_wp2_with fail
  refine (phone_fit ⟨id, false, H, N, S⟩ ss _ (HR.out.later hB1 (Nat.le_refl _)) (HS.out.later hB1 (Nat.le_refl _)) (PhoneD.right_iff HF.out).H hb).mono ?_
  rintro e w2 ⟨rfl, hb2⟩
  rw [HG.out]
  clear a0 a1 a2 a3 a4 af b0 b1 b2 b3 b4 bf
  have K_a : Blk _ (w.heap.size) 33 #[.int .i64 id, .bool false, .slice H.A H.l.length H.c, .slice N.A N.l.length N.c, .slice S.A S.l.length S.c] := qkc B_a hb2
  obtain ⟨a0, a1, a2, a3, a4, af, az⟩ := Blk.b5 K_a
  have B_a := Lib.hid K_a
  clear K_a
  have K_b : Blk _ (w.heap.size + 1) 33 #[.int .i64 0, .bool false, .slice none 0 0, .slice none 0 0, .slice none 0 0] := qkc B_b hb2
  obtain ⟨b0, b1, b2, b3, b4, bf, bz⟩ := Blk.b5 K_b
  have B_b := Lib.hid K_b
  clear K_b
  have hB2 : Below w.heap.size w w2 := qbv
  clear hb2
  go_wp2_with fail
  refine (phone_seen now _ (HW.out.below' hB2 (Nat.le_refl _))).mono ?_
  rintro e w3 ⟨rfl, hb3⟩
  rw [HK.out]
  clear a0 a1 a2 a3 a4 af b0 b1 b2 b3 b4 bf
  have K_a : Blk _ (w.heap.size) 33 #[.int .i64 id, .bool false, .slice H.A H.l.length H.c, .slice N.A N.l.length N.c, .slice S.A S.l.length S.c] := qkc B_a hb3
  obtain ⟨a0, a1, a2, a3, a4, af, az⟩ := Blk.b5 K_a
  have B_a := Lib.hid K_a
  clear K_a
  have K_b : Blk _ (w.heap.size + 1) 33 #[.int .i64 0, .bool false, .slice none 0 0, .slice none 0 0, .slice none 0 0] := qkc B_b hb3
  obtain ⟨b0, b1, b2, b3, b4, bf, bz⟩ := Blk.b5 K_b
  have B_b := Lib.hid K_b
  clear K_b
  have hB3 : Below w.heap.size w w3 := qbv
  clear hb3
  go_wp2_with fail
  try simp only [Exit.inBlock, Exit.then]
  refine bodyPost_ret (v := .tuple #[.agg #[.int .i64 id, .bool false, .slice H.A H.l.length H.c, .slice N.A N.l.length N.c, .slice S.A S.l.length S.c], .slice ss.A ss.l.length ss.c, .slice none 0 0, .int .i64 7]) ?_ rfl ⟨rfl, qbh⟩
  simp [results, Try.results28, go_sem, a0, a1, a2, a3, a4, af, b0, b1, b2, b3, b4, bf, bz]
end Go.Proofs.Ythnblhbdfpmolaa
/- What a phone that fits its stocks says: each loan that it holds is in its stock, with nothing used. -/
namespace Go.Proofs.Ythnblhbdfpmolaa
open Go.RowKit
theorem sorted_sub : ∀ (B A : List Int), A.Pairwise (· < ·) → B.Pairwise (· < ·) → (∀ x ∈ A, x ∈ B) → A.length ≤ B.length ∧ (A.length = B.length → A = B)
  | [], A, _, _, h => by
    rcases A with _ | ⟨a, A⟩
    · exact ⟨Nat.le_refl _, fun _ => rfl⟩
    · exact absurd (h a (by simp)) (by simp)
  | b :: B, [], _, _, _ => ⟨Nat.zero_le _, fun h => by simp at h⟩
  | b :: B, a :: A, hA, hB, h => by
    obtain ⟨hA1, hA2⟩ := List.pairwise_cons.1 hA
    obtain ⟨hB1, hB2⟩ := List.pairwise_cons.1 hB
    by_cases hab : a = b
    · subst hab
      have := sorted_sub B A hA2 hB2 (fun x hx => by
        rcases List.mem_cons.1 (h x (by simp [hx])) with rfl | h'
        · exact absurd (hA1 _ hx) (by omega)
        · exact h')
      exact ⟨by simp; omega, fun he => by rw [this.2 (by simpa using he)]⟩
    · have haB : a ∈ B := by
        rcases List.mem_cons.1 (h a (by simp)) with h' | h'
        · exact absurd h' hab
        · exact h'
      have hba := hB1 a haB
      have := sorted_sub B (a :: A) hA hB2 (fun x hx => by
        rcases List.mem_cons.1 (h x hx) with rfl | h'
        · rcases List.mem_cons.1 hx with rfl | hx
          · omega
          · have := hA1 _ hx; omega
        · exact h')
      exact ⟨by simp at this ⊢; omega, fun he => by simp at this he; omega⟩
theorem fitIn_none : ∀ (p : PhoneD) (k c : Int) (l : List Loan), (∀ y ∈ l, y.p ≠ p.id) → fitIn p k c l = some c
  | _, _, _, [], _ => rfl
  | p, k, c, y :: l, h => by rw [fitIn_far (h y (by simp))]; exact fitIn_none p k c l (fun z hz => h z (by simp [hz]))
theorem fitIn_one : ∀ (p : PhoneD) (k c c' : Int) (l : List Loan), l.Pairwise (fun a b => a.p < b.p) → fitIn p k c l = some c' → c' = c ∨ (c' = c + 1 ∧ ∃ y ∈ l, y.p = p.id ∧ fitOne p k y = true)
  | _, _, _, _, [], _, h => by simp [fitIn] at h; exact .inl h.symm
  | p, k, c, c', y :: l, hs, h => by
    obtain ⟨h1, h2⟩ := List.pairwise_cons.1 hs
    by_cases hy : y.p = p.id
    · rcases hf : fitOne p k y
      · rw [fitIn_no hy hf] at h; cases h
      · rw [fitIn_go hy hf, fitIn_none p k (c + 1) l (fun z hz => by have := h1 z hz; omega)] at h
        injection h with h
        exact .inr ⟨h.symm, y, by simp, hy, hf⟩
    · rw [fitIn_far hy] at h
      rcases fitIn_one p k c c' l h2 h with h' | ⟨h', z, hz, h3⟩
      · exact .inl h'
      · exact .inr ⟨h', z, by simp [hz], h3⟩
theorem fitGo_keys : ∀ (p : PhoneD) (k c c' : Int) (l : List StockD), fitGo p k c l = some c' →
    ∃ ks : List Int, ks.Pairwise (· < ·) ∧ c' = c + ks.length ∧ ∀ q ∈ ks, k ≤ q ∧ ∃ s, l[(q - k).toNat]? = some s ∧ ∃ y ∈ s.L, y.p = p.id ∧ fitOne p q y = true
  | p, k, c, c', [], h => by
    simp [fitGo] at h
    exact ⟨[], .nil, by simp [h], by simp⟩
  | p, k, c, c', s :: r, h => by
    rcases hs : s.right
    · rw [fitGo_no hs] at h; cases h
    · rcases hi : fitIn p k c s.L with _ | c1
      · rw [fitGo_in hs hi] at h; cases h
      · rw [fitGo_go hs hi] at h
        obtain ⟨ks, h1, h2, h3⟩ := fitGo_keys p (k + 1) c1 c' r h
        have h3' : ∀ q ∈ ks, k < q ∧ ∃ x, (s :: r)[(q - k).toNat]? = some x ∧ ∃ y ∈ x.L, y.p = p.id ∧ fitOne p q y = true := fun q hq => by
          obtain ⟨a, x, hx, b⟩ := h3 q hq
          refine ⟨by omega, x, ?_, b⟩
          have : (q - k).toNat = (q - (k + 1)).toNat + 1 := by omega
          rw [this, List.getElem?_cons_succ]; exact hx
        rcases fitIn_one p k c c1 s.L (StockD.sorted hs) hi with rfl | ⟨rfl, y, hy, hy2⟩
        · exact ⟨ks, h1, h2, fun q hq => ⟨by have := (h3' q hq).1; omega, (h3' q hq).2⟩⟩
        · refine ⟨k :: ks, List.pairwise_cons.2 ⟨fun q hq => (h3' q hq).1, h1⟩, by simp; omega, fun q hq => ?_⟩
          rcases List.mem_cons.1 hq with rfl | hq
          · exact ⟨Int.le_refl _, s, by simp, y, hy, hy2⟩
          · exact ⟨by have := (h3' q hq).1; omega, (h3' q hq).2⟩
/-- Each loan that the phone holds is in its stock, as it is there, and nothing of it is used. -/
theorem PhoneD.fit_holds {p : PhoneD} {l : List StockD} (h : p.fit l = true) (hH : holdsR p.H = true) : ∀ x ∈ p.H, ∃ s, l[x.st.toNat]? = some s ∧ s.right = true ∧ ∃ y ∈ s.L, y.p = p.id ∧ y.u = x.u ∧ y.s = 0 := by
  unfold PhoneD.fit at h
  split at h
  · rename_i c hc
    have hc' := of_decide_eq_true h
    obtain ⟨ks, h1, h2, h3⟩ := fitGo_keys p 0 0 c l hc
    obtain ⟨_, hso, _⟩ := holdsR_iff hH
    have hsub : ∀ q ∈ ks, q ∈ p.H.map Hold.st := fun q hq => by
      obtain ⟨_, s, _, y, _, _, hf⟩ := h3 q hq
      unfold fitOne at hf
      split at hf
      · simp only [Bool.and_eq_true] at hf
        have := hf.1.1
        simp only [hhas, List.any_eq_true, decide_eq_true_eq] at this
        obtain ⟨x, hx, he⟩ := this
        exact List.mem_map.2 ⟨x, hx, he⟩
      · cases hf
    have hst : (p.H.map Hold.st).Pairwise (· < ·) := List.pairwise_map.2 hso
    have heq := (sorted_sub (p.H.map Hold.st) ks h1 hst hsub).2 (by simp; omega)
    intro x hx
    have hq : x.st ∈ ks := by rw [heq]; exact List.mem_map_of_mem hx
    obtain ⟨h0, s, hs, y, hy, hyp, hf⟩ := h3 _ hq
    rw [Int.sub_zero] at hs
    refine ⟨s, hs, fitGo_right p l 0 0 c hc s (List.mem_of_getElem? hs), y, hy, hyp, ?_⟩
    unfold fitOne at hf
    split at hf
    · rename_i z hz
      simp only [Bool.and_eq_true, decide_eq_true_eq] at hf
      obtain ⟨x', hx', he⟩ := hidx_at hso hf.1.1
      rw [hz] at hx'
      injection hx' with hx'
      subst hx'
      have hzx : z = x := by
        have hzm := List.mem_of_getElem? hz
        obtain ⟨i, hi⟩ := List.getElem?_of_mem hzm
        obtain ⟨j, hj⟩ := List.getElem?_of_mem hx
        rcases Nat.lt_trichotomy i j with hij | hij | hij
        · have := sorted_get hso hi hj hij; omega
        · subst hij; rw [hi] at hj; injection hj
        · have := sorted_get hso hj hi hij; omega
      subst hzx
      exact ⟨hf.1.2.symm, hf.2⟩
    · cases hf
  · cases h
end Go.Proofs.Ythnblhbdfpmolaa
/- A drawn region: taking an operation, with its place given as a number. -/
namespace Go.Proofs.Ythnblhbdfpmolaa
open Go.RowKit
section
variable {P : Program} {ops : Array Oper} {Q : Exit → Act → World → Prop} {md : Region.Mode} {S : World → Prop} {T : Nat → Bool}
theorem wpAnyT_take2 {i d : Nat} {oi : Oper} {v : Value} {fuel : Nat} {listed : Array Bool} {a : Act} {w : World} (hi : ops[i]? = some oi) (hd : oi.dst = some d)
    (hs : Region.noSelect ops = true) (hf : Region.free md ops listed i = true) (hr : (Region.ready md ops listed).contains i = true) (hw : waitT md ops T i = true)
    (hQ : ∀ c a w, Q (.panic c) (a.put oi.dst v) w → Q (.panic c) a w) (hy : YieldsIf P ops S oi v a) (hS : S w)
    (h : wpAnyT P md ops Q S T fuel (listed.setIfInBounds i true) { a with tmps := a.tmps.setIfInBounds d v } w) : wpAnyT P md ops Q S T (fuel + 1) listed a w :=
  wpAnyT_take hi hs hf hr hw hQ hy hS (by rw [hd]; exact h)
end
section
variable {P : Program} {ops : Array Oper} {Q : Exit → Act → World → Prop} {md : Region.Mode} {S : World → Prop} {T : Nat → Bool}
theorem qtq (i : Nat) {d : Nat} {oi : Oper} {v : Value} {fuel : Nat} {listed : Array Bool} {a : Act} {w : World} (h : wpAnyT P md ops Q S T fuel (listed.setIfInBounds i true) { a with tmps := a.tmps.setIfInBounds d v } w)
    (hi : ops[i]? = some oi := by exact rfl) (hd : oi.dst = some d := by exact rfl) (hs : Region.noSelect ops = true := by kernel_rfl) (hf : Region.free md ops listed i = true := by kernel_rfl) (hr : (Region.ready md ops listed).contains i = true := by kernel_rfl) (hw : waitT md ops T i = true := by kernel_rfl)
    (hQ : ∀ c a w, Q (.panic c) (a.put oi.dst v) w → Q (.panic c) a w := by exact fun _ _ _ h => h) (hy : YieldsIf P ops S oi v a := by (refine Or.inl ⟨by rfl, ?_⟩; intro w hSw; (try dsimp only at hSw); go_simp) <;> (with_reducible rfl)) (hS : S w := by first | assumption | trivial) : wpAnyT P md ops Q S T (fuel + 1) listed a w :=
  wpAnyT_take2 hi hd hs hf hr hw hQ hy hS h
theorem qtn (i : Nat) {d : Nat} {oi : Oper} {fuel : Nat} {listed : Array Bool} {a : Act} {w : World} (h : wpAnyT P md ops Q S T fuel (listed.setIfInBounds i true) { a with tmps := a.tmps.setIfInBounds d undef } w)
    (hi : ops[i]? = some oi := by exact rfl) (hd : oi.dst = some d := by exact rfl) (hs : Region.noSelect ops = true := by kernel_rfl) (hf : Region.free md ops listed i = true := by kernel_rfl) (hr : (Region.ready md ops listed).contains i = true := by kernel_rfl) (hw : waitT md ops T i = true := by kernel_rfl)
    (hQ : ∀ c a w, Q (.panic c) (a.put oi.dst undef) w → Q (.panic c) a w := by exact fun _ _ _ h => h) (hy : YieldsIf P ops S oi undef a := by exact Or.inr ⟨by rfl, rfl⟩) (hS : S w := by first | assumption | trivial) : wpAnyT P md ops Q S T (fuel + 1) listed a w :=
  wpAnyT_take2 hi hd hs hf hr hw hQ hy hS h
end
end Go.Proofs.Ythnblhbdfpmolaa
