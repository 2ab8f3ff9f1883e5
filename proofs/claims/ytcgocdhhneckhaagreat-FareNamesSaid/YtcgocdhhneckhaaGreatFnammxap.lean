/- Walks of package big: div, where it is long. -/
import Derived.Test.YtcgocdhhneckhaaGreatFnammxao
namespace Go.Proofs.YtcgocdhhneckhaaGreat
open Go.RowKit
theorem own_oi {B c : Nat} {w : World} {A : Option Addr} {l : List Int} (h : Own B 3 1 ienc w ⟨A, c, l⟩) (hne : l ≠ []) : ∃ g, A = some ⟨g, 0, none⟩ ∧ OI B w g c l := by
  rcases h.form with ⟨_, _, h0⟩ | ⟨g, hA, _⟩
  · exact absurd h0 hne
  · simp only at hA
    subst hA
    exact ⟨g, rfl, h⟩
theorem digs_mono {x y : Nat} (h : x ≤ y) : (digs x).length ≤ (digs y).length := by
  rw [digs_len]
  have := digs_lenlt (n := y)
  omega
theorem digs_cast {x : Int} {n : Nat} (h : x = n) : digs n = digs x.toNat := by rw [h, Int.toNat_natCast]
/-- The plain side of a long division: both are made longer. -/
structure LongS (l m : List Int) (s : Int) (ul v : List Int) : Prop where
  eu : ul = digs (val l * s).toNat
  ev : v = digs (val m * s).toNat
  uv : val ul = val l * s
  vv : val v = val m * s
  nu : Norm ul
  nv : Norm v
  ulen : l.length ≤ ul.length
  ulen1 : ul.length ≤ l.length + 1
  vlen : m.length ≤ v.length
  vu : v.length ≤ ul.length
  vlen1 : v.length ≤ m.length + 1
theorem len_grow {l : List Int} (nl : Norm l) {s : Int} (h0 : 1 ≤ s) (h1 : s < 1048576) : l.length ≤ (digs (val l * s).toNat).length ∧ (digs (val l * s).toNat).length ≤ l.length + 1 := by
  have hv := val_nn nl.ok
  have hp : val l * 1 ≤ val l * s := Int.mul_le_mul_of_nonneg_left h0 hv
  constructor
  · conv => lhs; rw [nl.is]
    exact digs_mono (by omega)
  · rw [digs_len, Int.toNat_of_nonneg (by omega)]
    have h2 := val_lt nl.ok
    have h3 : val l * s ≤ val l * 1048575 := Int.mul_le_mul_of_nonneg_left (by omega) hv
    simp only [pw]
    omega
theorem longS {l m : List Int} {s : Int} (nl : Norm l) (nm : Norm m) (h0 : 1 ≤ s) (h1 : s < 1048576) (hle : val m ≤ val l) : LongS l m s (digs (val l * s).toNat) (digs (val m * s).toNat) := by
  have hl := val_nn nl.ok
  have hm := val_nn nm.ok
  have a := Int.mul_nonneg hl (show 0 ≤ s by omega)
  have b := Int.mul_nonneg hm (show 0 ≤ s by omega)
  have c : val m * s ≤ val l * s := Int.mul_le_mul_of_nonneg_right hle (by omega)
  obtain ⟨g1, g2⟩ := len_grow nl h0 h1
  obtain ⟨g3, g4⟩ := len_grow nm h0 h1
  exact ⟨rfl, rfl, by rw [digs_val, Int.toNat_of_nonneg a], by rw [digs_val, Int.toNat_of_nonneg b], digs_norm _, digs_norm _, g1, g2, g3, digs_mono (by omega), g4⟩
theorem getLast_ne {v : List Int} (h : Norm v) {k : Nat} (hk : v.length = k + 2) : v[k + 1] ≠ 0 := h.top _ (by rw [List.getLast?_eq_getElem?, show v.length - 1 = k + 1 by omega, List.getElem?_eq_getElem])
theorem cell_heap {w w' : World} (h : w'.heap = w.heap) (p : Addr) : w'.cell? p = w.cell? p := World.cell?_of_block (by rw [h])
theorem div_parts {A : Int} {v u qs : List Int} {m i : Nat} (h : DivS A v m (i + 1) u qs) (hv : Norm v) (h2 : 2 ≤ v.length) :
    ∃ ul vl P : Int, ∃ h1 : i + v.length < u.length, Parts (val (winD u i v.length)) (val v) P (u[i + v.length] * 1048576 + u[i + v.length - 1]) u[i + v.length - 2] ul v[v.length - 1] v[v.length - 2] vl := by
  have hl := h.ulen
  have hj := h.jm
  have hw := h.win hv.ok
  have hwl := winD_len (u := u) (i := i) (n := v.length) (by omega)
  obtain ⟨k, hk⟩ : ∃ k, v.length = k + 2 := ⟨v.length - 2, by omega⟩
  have hp := parts hw.2.2.2 hv.ok (k := k) (by omega) hk (getLast_ne hv hk)
  have e1 : (winD u i v.length)[k + 2] = u[i + v.length] := by rw [winD_get (by omega) (by omega)]; congr 1; omega
  have e2 : (winD u i v.length)[k + 1] = u[i + v.length - 1] := by rw [winD_get (by omega) (by omega)]; congr 1; omega
  have e3 : (winD u i v.length)[k] = u[i + v.length - 2] := by rw [winD_get (by omega) (by omega)]; congr 1; omega
  have e4 : v[k + 1] = v[v.length - 1] := by congr 1; omega
  have e5 : v[k] = v[v.length - 2] := by congr 1; omega
  rw [e1, e2, e3, e4, e5] at hp
  exact ⟨_, _, _, by omega, hp⟩
theorem inner_next {tt g r y : Int} (he : tt = g * y + r) (h1 : 1 ≤ g) (hy : 1 ≤ y) : tt = (g - 1) * y + (r + y) ∧ r + y ≤ tt := by
  have h2 : 0 ≤ (g - 1) * y := Int.mul_nonneg (by omega) (by omega)
  rw [Int.sub_mul, Int.one_mul] at h2 ⊢
  omega
theorem long_done {l m L v qs : List Int} {s : Int} {M : Nat} (h : DivS (val l * s) v M 0 L qs) (hv : val v = val m * s) (hs : 1 ≤ s) : val l / val m = val qs ∧ val l % val m = val L / s := by
  obtain ⟨h1, h2, h3, h4⟩ := h.done
  rw [hv] at h1 h3
  have e : val L = s * (val l - val m * val qs) := by
    rw [Int.mul_sub, Int.mul_comm s (val l), h1, show s * (val m * val qs) = val m * s * val qs by rw [Int.mul_comm (val m) s, Int.mul_assoc]]
    omega
  have hR : val L / s = val l - val m * val qs := by rw [e, Int.mul_ediv_cancel_left _ (by omega)]
  generalize hRR : val l - val m * val qs = R at *
  have hR0 : 0 ≤ R := by
    refine Decidable.byContradiction fun hn => ?_
    have : s * R ≤ s * (-1) := Int.mul_le_mul_of_nonneg_left (by omega) (by omega)
    omega
  have hR1 : R < val m := by
    refine Decidable.byContradiction fun hn => ?_
    have : s * val m ≤ s * R := Int.mul_le_mul_of_nonneg_left (by omega) (by omega)
    rw [Int.mul_comm (val m) s] at h3
    omega
  have hq := quo_is (U := val l) (V := val m) (g := val qs) (by omega) (by rw [Int.mul_comm]; omega) (by rw [Int.add_mul, Int.one_mul, Int.mul_comm]; omega)
  refine ⟨hq, ?_⟩
  rw [hR]
  have := Int.mul_ediv_add_emod (val l) (val m)
  rw [hq] at this
  omega
theorem win_facts {A : Int} {v u qs : List Int} {m i : Nat} (h : DivS A v m (i + 1) u qs) (hv : Norm v) (h2 : 2 ≤ v.length) :
    (winD u i v.length).length = v.length + 1 ∧ winD u i v.length = (u.drop i).take (winD u i v.length).length ∧ i + (winD u i v.length).length ≤ u.length ∧ DigOK (winD u i v.length) ∧ v.length ≤ (winD u i v.length).length ∧ 0 < val v := by
  have hl := h.ulen
  have hj := h.jm
  have hwl := winD_len (u := u) (i := i) (n := v.length) (by omega)
  have hlow := hv.low (by intro h0; have := congrArg List.length h0; simp only [List.length_nil] at this; omega)
  have := pw_pos (v.length - 1)
  exact ⟨hwl, by rw [hwl]; rfl, by omega, (h.win hv.ok).2.2.2, by omega, by omega⟩
theorem long_start {l m ul v : List Int} {s : Int} (h : LongS l m s ul v) (hm : 2 ≤ m.length) : DivS (val l * s) v ((ul ++ [0]).length - v.length) ((ul ++ [0]).length - v.length) (ul ++ [0]) [] := by
  have h1 := h.vlen
  have h2 := h.vu
  have hv : val (ul ++ [0]) = val l * s := by rw [val_app, ← h.uv]; simp [val]
  rw [← hv]
  refine DivS.start (digOK_app.2 ⟨h.nu.ok, digOK_cons.2 ⟨by omega, DigOK.nil⟩⟩) (by rw [List.length_append, List.length_singleton]; omega) ?_
  rw [List.length_append, List.length_singleton, List.drop_append_of_le_length (by omega), val_app]
  have h3 := val_lt (h.nu.ok.drop (ul.length + 1 - v.length))
  have h4 := h.nv.low (by intro h0; have := congrArg List.length h0; simp only [List.length_nil] at this; omega)
  rw [List.length_drop, show ul.length - (ul.length + 1 - v.length) = v.length - 1 by omega] at h3
  simp [val]
  omega
set_option maxRecDepth 100000 in
set_option maxHeartbeats 4000000 in
theorem big_div_long (a b : Sl Int) (w : World) (ha : Rd (· < w.heap.size) 1 ienc w a) (hb : Rd (· < w.heap.size) 1 ienc w b) (na : Norm a.l) (nb : Norm b.l) (hla : a.l.length ≤ 150) (hle : val b.l ≤ val a.l) (hl2 : 2 ≤ b.l.length) :
    Calls Tryz.prog 162 #[a.v, b.v] w fun e w' => DivP w w' (val a.l) (val b.l) e := by
  have HC := big_compare a b w ha hb na nb
  have hu0 : 0 ≤ ucmp (val a.l) (val b.l) := by
    rcases Int.lt_or_le (val b.l) (val a.l) with h | h
    · rw [ucmp_gt h]; omega
    · rw [ucmp_eq (by omega)]; exact Int.le_refl _
  generalize ucmp (val a.l) (val b.l) = cm at *
  have hlb : b.l.length ≤ a.l.length := by
    rcases Nat.lt_or_ge a.l.length b.l.length with h | h
    · have := len_lt na.ok nb h
      omega
    · exact h
  have HA := Lib.hid ha
  have HB := Lib.hid hb
  have NA := Lib.hid na
  have NB := Lib.hid nb
  have HLE := Lib.hid hle
  obtain ⟨A, c, l⟩ := a
  obtain ⟨B, d, m⟩ := b
  simp only at hla hl2 hlb
  clear ha hb na nb hle
  simp only [Sl.v] at HC ⊢
  go_enter Tryz.func162, Tryz.ntmps162
  go_wp2_with fail
  refine HC.mono ?_
  rintro e w1 ⟨rfl, hb1⟩
  have HB1 := Lib.hid hb1
  obtain ⟨b1, o1, hB, _, c0⟩ := (HB.out.later hb1).geti (show m.length - 1 < m.length by omega)
  simp only at hB c0
  subst hB
  have hx := NB.out.ok.get (show m.length - 1 < m.length by omega)
  have hx1 : m[m.length - 1] ≠ 0 := NB.out.top _ (by rw [List.getLast?_eq_getElem?, List.getElem?_eq_getElem])
  generalize m[m.length - 1] = x at *
  clear HC hb1
  go_wp2_with fail
  go_loopw [8] (fun v wr => ∃ (s : Int), v = .int .i64 s ∧ 1 ≤ s ∧ s < 1048576 ∧ w1 = wr) (fun v _ => (1048576 - intOf v).toNat)
  case atStart => exact ⟨1, rfl, by omega, by omega, rfl⟩
  case round =>
    obtain ⟨s, rfl, hs0, hs1, rfl⟩ := hrel
    have hp0 : s ≤ x * s := by
      have := Int.mul_le_mul_of_nonneg_right (show 1 ≤ x by omega) (show 0 ≤ s by omega)
      omega
    have hp1 : x * s ≤ 1048575 * 1048575 := Int.mul_le_mul (by omega) (by omega) (by omega) (by omega)
    by_cases hlt : x * s < 524288
    · go_wp2_with fail
      go_roundw
      case rel => exact ⟨s * 2, rfl, by omega, by omega, trivial⟩
      case measure => simp [intOf]; omega
    · have HL := Lib.hid (longS NA.out NB.out hs0 hs1 HLE.out)
      go_wp2_with fail
      clear hx hx1 c0 hp0 hp1 hlt
      refine (big_mul ⟨A, c, l⟩ ⟨some ⟨w1.heap.size, 0, none⟩, 1, [s]⟩ _ ((HA.out.later HB1.out).lt_alloc _) (OI.new w1 [s] (by simp [maxLen])).rdlt NA.out.ok (digOK_cons.2 ⟨⟨by omega, hs1⟩, DigOK.nil⟩) (by simp only; omega) (by simp) (n := (val l * s).toNat) (by simp only [val]; rw [Int.toNat_of_nonneg (Int.mul_nonneg (val_nn NA.out.ok) (by omega))]; congr 1; omega)).mono ?_
      rintro e w2 ⟨⟨uA, uc, ul⟩, rfl, hul, huo, hb2⟩
      simp only at hul
      have hB2 : Below w.heap.size w w2 := HB1.out.trans (below_via hb2 ((Below.refl _ _).alloc (Nat.le_refl _) _) |>.mono HB1.out.size)
      have hz1 := HB1.out.size
      have hz2 : w1.heap.size + 1 ≤ w2.heap.size := by have := hb2.size; simpa using this
      have hsz1 : (w1.alloc (.cells (ints [s]) 3)).heap.size = w1.heap.size + 1 := by simp
      rw [hsz1] at huo
      have HUO := Lib.hid (huo.alloc (.cells (ints [0]) 3))
      have hun : ul.length ≤ 151 := by rw [hul]; have := HL.out.ulen1; omega
      have HUL := Lib.hid hul
      have hrow : ∀ k, (Value.slice uA ul.length uc).ownBlock = some k → w.heap.size ≤ k := fun k hk => by
        have := World.ownsRow.lt huo k hk
        omega
      have HROW := Lib.hid hrow
      have HB2 := Lib.hid hB2
      clear huo hul hb2 hB2 hsz1 hrow
      simp only [Sl.v]
      go_wp2_with (at_builtin
                   go_must (refine wpl_append_sl _ rfl (.tmp 54) (.tmp 55) _ rfl Tryz.underlying60 infoInt (by omega) ienc_k ienc_one ⟨uA, uc, ul⟩ ⟨some ⟨w2.heap.size, 0, none⟩, 1, [0]⟩ rfl rfl HUO.out (OI.new w2 [0] (by simp [maxLen])).rdlt (by simp [maxLen]; omega) (by simp; omega) (by simp; omega) ?_)
                   intro A2 c2 w3 hown hg _)
      obtain ⟨gu, rfl, hou⟩ := own_oi hown (by simp)
      have hg0 : w1.heap.size + 1 ≤ gu := hou.ge
      have hg1 : gu < w3.heap.size := hou.lt
      have hz3 : w2.heap.size + 1 ≤ w3.heap.size := by have := hg.size; simpa using this
      have HB3 : Hid (Below w.heap.size w w3) := Lib.hid ((HB2.out.alloc (by omega) (.cells (ints [0]) 3)).grown hg (by simp; omega) HROW.out)
      have HOU := Lib.hid hou
      have hst := long_start HL.out hl2
      rw [← HUL.out] at hst
      have HST := Lib.hid hst
      have hU1 : l.length ≤ ul.length := by rw [HUL.out]; exact HL.out.ulen
      have hvl : (digs (val m * s).toNat).length ≤ ul.length := by rw [HUL.out]; exact HL.out.vu
      have HUE : Hid ((ul ++ [0]).length = ul.length + 1) := Lib.hid (by rw [List.length_append, List.length_singleton])
      clear hown hg hou HUO HROW HUL HB2 hst
      generalize ul ++ [0] = U at *
      refine (big_mul ⟨some ⟨b1, o1, none⟩, d, m⟩ ⟨some ⟨w3.heap.size, 0, none⟩, 1, [s]⟩ _ ((HB.out.later HB3.out).lt_alloc _) (OI.new w3 [s] (by simp [maxLen])).rdlt NB.out.ok (digOK_cons.2 ⟨⟨by omega, hs1⟩, DigOK.nil⟩) (by simp only; omega) (by simp) (n := (val m * s).toNat) (by simp only [val]; rw [Int.toNat_of_nonneg (Int.mul_nonneg (val_nn NB.out.ok) (by omega))]; congr 1; omega)).mono ?_
      rintro e w4 ⟨⟨vA, vc, v⟩, rfl, hvv, hvo, hb4⟩
      simp only at hvv
      rw [HUE.out, ← hvv] at HST
      rw [← hvv] at hvl
      have hv2 : m.length ≤ v.length := by rw [hvv]; exact HL.out.vlen
      have hv3 := HL.out.nv
      have hv4 := HL.out.vv
      rw [← hvv] at hv3 hv4
      have HNV := Lib.hid hv3
      have HVV := Lib.hid hv4
      have hz4 : w3.heap.size + 1 ≤ w4.heap.size := by have := hb4.size; simpa using this
      have HB4 : Hid (Below w.heap.size w w4) := Lib.hid (HB3.out.trans ((below_via hb4 ((Below.refl _ _).alloc (Nat.le_refl _) _)).mono (by omega)))
      have hb4' : Below w3.heap.size w3 w4 := below_via hb4 ((Below.refl _ _).alloc (Nat.le_refl _) _)
      have HOU4 := Lib.hid (HOU.out.later hb4')
      have hsz3 : (w3.alloc (.cells (ints [s]) 3)).heap.size = w3.heap.size + 1 := by simp
      rw [hsz3] at hvo
      have HRV : Hid (Rd (fun b => b < w4.heap.size ∧ b ≠ gu) 1 ienc w4 ⟨vA, vc, v⟩) := Lib.hid (hvo.nw.mono fun b hb => ⟨hb.2, by have := hb.1; omega⟩)
      obtain ⟨n, hn⟩ : ∃ n, n = v.length := ⟨_, rfl⟩
      have hmk : ∀ W : World, (Instr.makeSlice 60 (.int .i64 ((ul.length : Int) + 1 - (v.length : Int))) (.int .i64 ((ul.length : Int) + 1 - (v.length : Int)))).run Tryz.prog W = .ok (.slice (some ⟨W.heap.size, 0, none⟩) (ul.length + 1 - v.length) (ul.length + 1 - v.length)) (W.alloc (.cells (ints (List.replicate (ul.length + 1 - v.length) 0)) 3)) := fun W => by
        have h := make_ints (ul.length + 1 - v.length) (by omega) W
        rw [show ((ul.length + 1 - v.length : Nat) : Int) = (ul.length : Int) + 1 - (v.length : Int) by omega] at h
        exact h
      have hne0 : ((ul.length : Int) + 1 == (l.length : Int)) = false := by simp; omega
      have hgq : gu ≠ w4.heap.size := by omega
      have hwq : w.heap.size ≤ w4.heap.size := by omega
      have HGQ := Lib.hid hgq
      have HWQ := Lib.hid hwq
      clear hvv hvo hv3 hv4 hb4 hb4' hsz3 HOU HB3 hn HL hgq hwq
      simp only [Sl.v]
      go_wp2_with fail
      clear hmk
      have hO : OI w4.heap.size (w4.alloc (.cells (ints (List.replicate (ul.length + 1 - v.length) 0)) 3)) w4.heap.size (ul.length + 1 - v.length) (List.replicate (ul.length + 1 - v.length) 0 ++ []) := by
        have h := OI.new w4 (List.replicate (ul.length + 1 - v.length) 0) (by rw [List.length_replicate]; unfold maxLen; omega)
        rw [List.append_nil]
        rwa [List.length_replicate] at h
      have HOQ := Lib.hid hO
      have HRV5 := Lib.hid (HRV.out.up (w' := w4.alloc (.cells (ints (List.replicate (ul.length + 1 - v.length) 0)) 3)) (fun _ h => h.1) qbl)
      have HOU5 := Lib.hid (HOU4.out.alloc (.cells (ints (List.replicate (ul.length + 1 - v.length) 0)) 3))
      have HB5 : Hid (Below w.heap.size w (w4.alloc (.cells (ints (List.replicate (ul.length + 1 - v.length) 0)) 3))) := Lib.hid (HB4.out.alloc (by omega) _)
      have hz5 : w4.heap.size < (w4.alloc (.cells (ints (List.replicate (ul.length + 1 - v.length) 0)) 3)).heap.size := by simp
      obtain ⟨M, hM⟩ : ∃ M, ul.length + 1 - v.length = M := ⟨_, rfl⟩
      generalize w4.alloc (.cells (ints (List.replicate (ul.length + 1 - v.length) 0)) 3) = w5 at *
      rw [hM] at HOQ HST
      have hMle : M ≤ 152 := by omega
      have hM1 : (ul.length : Int) + 1 - (v.length : Int) = (M : Int) := by omega
      have HMU : Hid (U.length = M + v.length) := Lib.hid (by rw [HUE.out]; omega)
      rw [hM]
      clear hO HOU4 HRV hM
      have HM1 := Lib.hid hM1
      rw [hM1]
      clear hM1
      go_loopw [13] (fun x wr => ∃ (j : Nat) (L qs : List Int), j ≤ M ∧ x = .int .i64 ((j : Int) - 1) ∧ Hid (DivS (val l * s) v M j L qs) ∧ Hid (OI (w1.heap.size + 1) wr gu c2 L) ∧ Hid (OI w4.heap.size wr w4.heap.size M (List.replicate j 0 ++ qs)) ∧ Hid (Rd (fun b => b < w4.heap.size ∧ b ≠ gu) 1 ienc wr ⟨vA, vc, v⟩) ∧ Below w.heap.size w wr) (fun x _ => (intOf x + 1).toNat)
      case atStart => exact ⟨M, U, [], Nat.le_refl _, rfl, HST, HOU5, HOQ, HRV5, HB5.out⟩
      case round =>
        clear HST HOU5 HOQ HRV5 HB5
        obtain ⟨j, L, qs, hj, rfl, HS, HPU, HPQ, HPV, hbel⟩ := hrel
        rcases j with _ | j
        · have HDN := Lib.hid (long_done HS.out HVV.out hs0)
          have hlu : ul.length + 1 = L.length := by rw [HS.out.ulen, ← HMU.out, HUE.out]
          have hql : M = qs.length := by have := HS.out.qlen; omega
          have HLU := Lib.hid hlu
          have HQL := Lib.hid hql
          have HPQ2 : Hid (OI w4.heap.size wr w4.heap.size M qs) := HPQ
          have HQF : Hid (trimL qs = digs (val l / val m).toNat) := Lib.hid (by rw [trimL_is HS.out.qok, HDN.out.1])
          have HUOK := Lib.hid (trimL_norm HS.out.uok).ok
          have htl : (trimL L).length ≤ 200 := by have := trimL_le L; omega
          have HRF : Hid (digs (val (trimL L) / s).toNat = digs (val l % val m).toNat) := Lib.hid (by rw [trimL_val, HDN.out.2])
          have hszr := hbel.size
          clear hlu hql HPQ
          go_wp2_with fail
          refine (trim_oi _ HPU.out HLU.out).mono ?_
          rintro e w' ⟨rfl, rfl⟩
          go_wp2_with fail
          refine (big_short ⟨some ⟨gu, 0, none⟩, c2, trimL L⟩ s _ HPU.out.rdlt.trim HUOK.out htl (by omega) hs1).mono ?_
          rintro e w7 ⟨⟨rA, rc, rl⟩, rfl, hrl, hown, hb7⟩
          have HRL := Lib.hid (hrl.trans HRF.out)
          have HOW := Lib.hid hown
          have HPQ7 := Lib.hid (HPQ2.out.later hb7)
          have HB7 := Lib.hid (hbel.trans (hb7.mono hszr))
          have hz7 := HPQ7.out.lt
          clear hrl hown hb7
          simp only [Sl.v]
          go_wp2_with fail
          refine (trim_oi _ HPQ7.out HQL.out).mono ?_
          rintro e w' ⟨rfl, rfl⟩
          go_wp2_with fail
          try simp only [Exit.inBlock, Exit.then]
          refine bodyPost_ret (v := .tuple #[.slice (some ⟨w4.heap.size, 0, none⟩) (trimL qs).length M, .slice rA rl.length rc]) ?_ rfl ⟨⟨some ⟨w4.heap.size, 0, none⟩, M, trimL qs⟩, ⟨rA, rc, rl⟩, rfl, HQF.out, HRL.out, HPQ7.out.rd.trim.mono (fun b hb => ⟨by omega, by omega⟩), HOW.out.nw.mono (fun b hb => hb.mono hszr (Nat.le_refl _)), HB7.out⟩
          simp [results, Tryz.results162, go_sem, ]
        · have hL := HS.out.ulen
          obtain ⟨pl, pv, PP, hjn, hprt⟩ := div_parts HS.out HNV.out (by omega)
          have HUB := Lib.hid (HS.out.win HNV.out.ok).2.1
          have f0 := HPU.out.cell hjn
          have f1 := HPU.out.cell (show j + v.length - 1 < L.length by omega)
          have f2 := HPU.out.cell (show j + v.length - 2 < L.length by omega)
          have d0 := HS.out.uok.get hjn
          have d1 := HS.out.uok.get (show j + v.length - 1 < L.length by omega)
          have d2 := HS.out.uok.get (show j + v.length - 2 < L.length by omega)
          obtain ⟨b2, o2, hvA, hbv, e1⟩ := HPV.out.geti (show v.length - 1 < v.length by omega)
          obtain ⟨b2', o2', hvA', _, e2⟩ := HPV.out.geti (show v.length - 2 < v.length by omega)
          simp only at hvA hvA' e1 e2
          subst hvA
          injection hvA' with hvA'
          injection hvA' with h1 h2
          subst h1 h2
          have g1 := HNV.out.ok.get (show v.length - 1 < v.length by omega)
          have g2 := HNV.out.ok.get (show v.length - 2 < v.length by omega)
          generalize L[j + v.length] = t2 at *
          generalize L[j + v.length - 1] = t1 at *
          generalize L[j + v.length - 2] = t0 at *
          generalize v[v.length - 1] = y1 at *
          generalize v[v.length - 2] = y0 at *
          have HPR := Lib.hid hprt
          have hy1 := hprt.vt1
          have hor : bits .or .i64 (IntKind.i64.wrap (t2 * 1048576)) t1 = t2 * 1048576 + t1 := by rw [wr64 (by omega) (by omega)]; exact i64_join20 (r := t2) (x := t1) d0.1 (by omega) d1.1 d1.2
          have HLL := Lib.hid hL
          clear hprt hL
          have hulM := HMU.out
          rw [HUE.out] at hulM
          obtain ⟨p, hp⟩ : ∃ p, j + v.length = p := ⟨_, rfl⟩
          obtain ⟨p1, hp1⟩ : ∃ p1, j + v.length - 1 = p1 := ⟨_, rfl⟩
          obtain ⟨p2, hp2⟩ : ∃ p2, j + v.length - 2 = p2 := ⟨_, rfl⟩
          obtain ⟨n1, hn1⟩ : ∃ n1, v.length - 1 = n1 := ⟨_, rfl⟩
          obtain ⟨n2, hn2⟩ : ∃ n2, v.length - 2 = n2 := ⟨_, rfl⟩
          rw [hp] at f0
          rw [hp1] at f1
          rw [hp2] at f2
          rw [hn1] at e1
          rw [hn2] at e2
          have k1 : IntKind.i64.wrap ((j : Int) + (v.length : Int)) = (p : Int) := by rw [wr64 (by omega) (by omega)]; omega
          have k2 : IntKind.i64.wrap ((p : Int) - 1) = (p1 : Int) := by rw [wr64 (by omega) (by omega)]; omega
          have k3 : IntKind.i64.wrap ((p : Int) - 2) = (p2 : Int) := by rw [wr64 (by omega) (by omega)]; omega
          have k4 : IntKind.i64.wrap ((v.length : Int) - 1) = (n1 : Int) := by rw [wr64 (by omega) (by omega)]; omega
          have k5 : IntKind.i64.wrap ((v.length : Int) - 2) = (n2 : Int) := by rw [wr64 (by omega) (by omega)]; omega
          have q1 : (p : Int) < (ul.length : Int) + 1 := by omega
          have q2 : (p1 : Int) < (ul.length : Int) + 1 := by omega
          have q3 : (p2 : Int) < (ul.length : Int) + 1 := by omega
          have q4 : n1 < v.length := by omega
          have q5 : n2 < v.length := by omega
          have HPP := Lib.hid (And.intro hp (And.intro hp1 (And.intro hp2 (And.intro hn1 (And.intro hn2 hulM)))))
          clear hp hp1 hp2 hn1 hn2 hulM
          go_wp2_with fail
          refine wp_region_T (fun W => W.cell? ⟨gu, p, none⟩ = some (.int .i64 t2) ∧ W.cell? ⟨gu, p1, none⟩ = some (.int .i64 t1)) (fun _ => false) (by kernel_rfl) ⟨f0, f1⟩ (fun hHeld => ?_)
          refine qtq 0 ?_
          simp only [qsa, qsb, qsc]
          refine qtq 1 ?_
          simp only [qsa, qsb, qsc]
          refine qtq 2 ?_
          simp only [qsa, qsb, qsc]
          refine qtq 3 ?_
          simp only [qsa, qsb, qsc]
          refine qtq 4 ?_
          simp only [qsa, qsb, qsc]
          refine qtq 5 ?_
          simp only [qsa, qsb, qsc]
          refine qtq 6 ?_
          simp only [qsa, qsb, qsc]
          refine qtq 7 ?_
          simp only [qsa, qsb, qsc]
          refine qtq 8 ?_
          simp only [qsa, qsb, qsc]
          refine qtq 9 ?_
          simp only [qsa, qsb, qsc]
          refine qtq 10 ?_
          simp only [qsa, qsb, qsc]
          refine qtq 11 ?_
          simp only [qsa, qsb, qsc]
          refine qtq 12 ?_
          simp only [qsa, qsb, qsc]
          refine qtq 13 ?_
          simp only [qsa, qsb, qsc]
          refine qtq 14 ?_
          simp only [qsa, qsb, qsc]
          refine qtq 15 ?_
          simp only [qsa, qsb, qsc]
          refine wpAnyT_done (by kernel_rfl) ?_ _
          clear hHeld
          go_wp2_with fail
          have ht0 := HPR.out.t0
          have htB := HPR.out.tB
          clear hor f0 f1
          generalize t2 * 1048576 + t1 = tt at *
          have hyz : ¬ y1 = 0 := by omega
          refine wp_region_T (fun W => W.cell? ⟨b2, o2 + n1, none⟩ = some (.int .i64 y1)) (fun _ => false) (by kernel_rfl) e1 (fun hHeld => ?_)
          refine qtq 0 ?_
          simp only [qsa, qsb, qsc]
          refine qtq 1 ?_
          simp only [qsa, qsb, qsc]
          refine qtq 2 ?_
          simp only [qsa, qsb, qsc]
          refine qtq 3 ?_
          simp only [qsa, qsb, qsc]
          refine qtq 4 ?_
          simp only [qsa, qsb, qsc]
          refine qtq 5 ?_
          simp only [qsa, qsb, qsc]
          refine qtq 6 ?_
          simp only [qsa, qsb, qsc]
          refine qtq 7 ?_
          simp only [qsa, qsb, qsc]
          refine qtq 8 ?_
          simp only [qsa, qsb, qsc]
          refine qtq 9 ?_
          simp only [qsa, qsb, qsc]
          refine qtq 10 ?_
          simp only [qsa, qsb, qsc]
          refine qtq 11 ?_
          simp only [qsa, qsb, qsc]
          refine qtq 12 ?_
          simp only [qsa, qsb, qsc]
          refine qtq 13 ?_
          simp only [qsa, qsb, qsc]
          refine qtq 14 ?_
          simp only [qsa, qsb, qsc]
          refine qtq 15 ?_
          simp only [qsa, qsb, qsc]
          refine wpAnyT_done (by kernel_rfl) ?_ _
          clear hHeld
          go_wp2_with fail
          have hq1 : IntKind.i64.wrap (tt.tdiv y1) = tt / y1 := by
            rw [Int.tdiv_eq_ediv_of_nonneg ht0, wr64 (by have := HPR.out.first.2.2.1; omega) (by have := HPR.out.first.2.2.2.1; omega)]
          have hq2 : tt.tmod y1 = tt % y1 := Int.tmod_eq_emod_of_nonneg ht0
          rw [hq1, hq2]
          clear hq1 hq2
          obtain ⟨hf1, hf2, hf3, hf4, hf5, hf6⟩ := HPR.out.first
          generalize tt / y1 = g0 at *
          generalize tt % y1 = r0 at *
          have HG0 := Lib.hid (And.intro hf2 hf1)
          clear hf1 hf2
          have hr0t : r0 ≤ tt := by
            have h := HG0.out.1
            have : 0 ≤ g0 * y1 := Int.mul_nonneg hf3 (by omega)
            omega
          obtain ⟨wo, hwo⟩ : ∃ x, x = wr.drew.drew := ⟨_, rfl⟩
          have f2' : wo.cell? ⟨gu, p2, none⟩ = some (.int .i64 t0) := by rw [hwo]; exact f2
          have e1' : wo.cell? ⟨b2, o2 + n1, none⟩ = some (.int .i64 y1) := by rw [hwo]; exact e1
          have e2' : wo.cell? ⟨b2, o2 + n2, none⟩ = some (.int .i64 y0) := by rw [hwo]; exact e2
          have HPU' : Hid (OI (w1.heap.size + 1) wo gu c2 L) := Lib.hid (by rw [hwo]; exact HPU.out)
          have HPQ' : Hid (OI w4.heap.size wo w4.heap.size M (List.replicate (j + 1) 0 ++ qs)) := Lib.hid (by rw [hwo]; exact HPQ.out)
          have HPV' : Hid (Rd (fun b => b < w4.heap.size ∧ b ≠ gu) 1 ienc wo ⟨some ⟨b2, o2, none⟩, vc, v⟩) := Lib.hid (by rw [hwo]; exact HPV.out)
          have HBO : Hid (Below w.heap.size w wo) := Lib.hid (by rw [hwo]; exact Below.drew (Below.drew hbel))
          rw [← hwo]
          have F2 := Lib.hid f2'
          have E1 := Lib.hid e1'
          have E2 := Lib.hid e2'
          clear hwo HPU HPQ HPV hbel f2 e1 e2 f2' e1' e2'
          clear wr
          go_loopw [15, 16] (fun x y wr => ∃ (gg rr : Int), x = .int .i64 gg ∧ y = .int .i64 rr ∧ 0 ≤ gg ∧ gg ≤ tt ∧ 0 ≤ rr ∧ rr ≤ tt ∧ Hid (tt = gg * y1 + rr ∧ val (winD L j v.length) < (gg + 1) * val v) ∧ Hid (wr.heap = wo.heap) ∧ Below w.heap.size w wr) (fun x _ _ => (intOf x).toNat)
          case atStart => exact ⟨g0, r0, rfl, rfl, hf3, hf4, hf5, hr0t, HG0, Lib.hid rfl, HBO.out⟩
          case round =>
            clear HG0 hf3 hf4 hf5 hf6 hr0t
            obtain ⟨gg, rr, rfl, rfl, hg0', hg1', hr0, hr1, HGG, HH, hbel⟩ := hrel
            have f2 := (cell_heap HH.out _).trans F2.out
            have e1 := (cell_heap HH.out _).trans E1.out
            have e2 := (cell_heap HH.out _).trans E2.out
            by_cases hga : 1048576 ≤ gg
            · go_wp2_with fail
              refine wp_region_T (fun W => True) (fun _ => false) (by kernel_rfl) trivial (fun hHeld => ?_)
              refine qtq 0 ?_
              simp only [qsa, qsb, qsc]
              refine wpAnyT_take2 (i := 1) (v := .bool true) rfl rfl (by kernel_rfl) (by kernel_rfl) (by kernel_rfl) (by kernel_rfl) (fun _ _ _ h => h) (Or.inl ⟨by rfl, ?_⟩) (by first | assumption | trivial) ?_
              · (intro w hSw; (try dsimp only at hSw); go_simp) <;> (first | (with_reducible rfl) | assumption | (simp; done) | (simp [*]; done) | (simp; omega))
              simp only [qsa, qsb, qsc]
              refine qtq 2 ?_
              simp only [qsa, qsb, qsc]
              refine qtn 3 ?_
              simp only [qsa, qsb, qsc]
              refine qtn 4 ?_
              simp only [qsa, qsb, qsc]
              refine qtn 5 ?_
              simp only [qsa, qsb, qsc]
              refine qtn 6 ?_
              simp only [qsa, qsb, qsc]
              refine qtn 7 ?_
              simp only [qsa, qsb, qsc]
              refine qtn 8 ?_
              simp only [qsa, qsb, qsc]
              refine qtn 9 ?_
              simp only [qsa, qsb, qsc]
              refine qtn 10 ?_
              simp only [qsa, qsb, qsc]
              refine qtn 11 ?_
              simp only [qsa, qsb, qsc]
              refine qtn 12 ?_
              simp only [qsa, qsb, qsc]
              refine qtn 13 ?_
              simp only [qsa, qsb, qsc]
              refine qtn 14 ?_
              simp only [qsa, qsb, qsc]
              refine qtn 15 ?_
              simp only [qsa, qsb, qsc]
              refine qtn 16 ?_
              simp only [qsa, qsb, qsc]
              refine qtn 17 ?_
              simp only [qsa, qsb, qsc]
              refine qtn 18 ?_
              simp only [qsa, qsb, qsc]
              refine qtn 19 ?_
              simp only [qsa, qsb, qsc]
              refine qtn 20 ?_
              simp only [qsa, qsb, qsc]
              refine qtn 21 ?_
              simp only [qsa, qsb, qsc]
              refine qtn 22 ?_
              simp only [qsa, qsb, qsc]
              refine qtn 23 ?_
              simp only [qsa, qsb, qsc]
              refine qtn 24 ?_
              simp only [qsa, qsb, qsc]
              refine qtq 25 ?_
              simp only [qsa, qsb, qsc]
              refine wpAnyT_done (by kernel_rfl) ?_ _
              clear hHeld
              go_wp2_with fail
              go_roundw
              case rel =>
                obtain ⟨k6, k7⟩ := HPR.out.less HUB.out HGG.out.2 HGG.out.1 hg0' (.inl hga)
                obtain ⟨k8, k9⟩ := inner_next HGG.out.1 k7 hy1
                exact ⟨gg - 1, rr + y1, rfl, rfl, by omega, by omega, by omega, k9, Lib.hid ⟨k8, by rw [show gg - 1 + 1 = gg by omega]; exact k6⟩, HH, Below.drew hbel⟩
              case measure => simp [intOf]; omega
            · by_cases hrb : rr < 1048576
              · have hw1 : IntKind.i64.wrap (gg * y0) = gg * y0 := by
                  have h1 : 0 ≤ gg * y0 := Int.mul_nonneg hg0' g2.1
                  have h2 : gg * y0 ≤ 1048575 * 1048575 := Int.mul_le_mul (by omega) (by omega) g2.1 (by omega)
                  rw [wr64 (by omega) (by omega)]
                have hor : bits .or .i64 (IntKind.i64.wrap (rr * 1048576)) t0 = rr * 1048576 + t0 := by rw [wr64 (by omega) (by omega)]; exact i64_join20 hr0 (by omega) d2.1 d2.2
                by_cases hgt : rr * 1048576 + t0 < gg * y0
                · have hk7 := (HPR.out.less HUB.out HGG.out.2 HGG.out.1 hg0' (.inr ⟨hrb, hgt⟩)).2
                  go_wp2_with fail
                  refine wp_region_T (fun W => W.cell? ⟨gu, p2, none⟩ = some (.int .i64 t0) ∧ W.cell? ⟨b2, o2 + n2, none⟩ = some (.int .i64 y0)) (fun _ => false) (by kernel_rfl) ⟨f2, e2⟩ (fun hHeld => ?_)
                  refine qtq 0 ?_
                  simp only [qsa, qsb, qsc]
                  refine wpAnyT_take2 (i := 1) (v := .bool false) rfl rfl (by kernel_rfl) (by kernel_rfl) (by kernel_rfl) (by kernel_rfl) (fun _ _ _ h => h) (Or.inl ⟨by rfl, ?_⟩) (by first | assumption | trivial) ?_
                  · (intro w hSw; (try dsimp only at hSw); go_simp) <;> (first | (with_reducible rfl) | assumption | (simp; done) | (simp [*]; done) | (simp; omega))
                  simp only [qsa, qsb, qsc]
                  refine qtq 2 ?_
                  simp only [qsa, qsb, qsc]
                  refine qtq 3 ?_
                  simp only [qsa, qsb, qsc]
                  refine wpAnyT_take2 (i := 4) (v := .bool true) rfl rfl (by kernel_rfl) (by kernel_rfl) (by kernel_rfl) (by kernel_rfl) (fun _ _ _ h => h) (Or.inl ⟨by rfl, ?_⟩) (by first | assumption | trivial) ?_
                  · (intro w hSw; (try dsimp only at hSw); go_simp) <;> (first | (with_reducible rfl) | assumption | (simp; done) | (simp [*]; done) | (simp; omega))
                  simp only [qsa, qsb, qsc]
                  refine qtq 5 ?_
                  simp only [qsa, qsb, qsc]
                  refine qtq 6 ?_
                  simp only [qsa, qsb, qsc]
                  refine qtq 7 ?_
                  simp only [qsa, qsb, qsc]
                  refine qtq 8 ?_
                  simp only [qsa, qsb, qsc]
                  refine qtq 9 ?_
                  simp only [qsa, qsb, qsc]
                  refine qtq 10 ?_
                  simp only [qsa, qsb, qsc]
                  refine qtq 11 ?_
                  simp only [qsa, qsb, qsc]
                  refine qtq 12 ?_
                  simp only [qsa, qsb, qsc]
                  refine qtq 13 ?_
                  simp only [qsa, qsb, qsc]
                  refine qtq 14 ?_
                  simp only [qsa, qsb, qsc]
                  refine qtq 15 ?_
                  simp only [qsa, qsb, qsc]
                  refine qtq 16 ?_
                  simp only [qsa, qsb, qsc]
                  refine qtq 17 ?_
                  simp only [qsa, qsb, qsc]
                  refine qtq 18 ?_
                  simp only [qsa, qsb, qsc]
                  refine qtq 19 ?_
                  simp only [qsa, qsb, qsc]
                  refine qtq 20 ?_
                  simp only [qsa, qsb, qsc]
                  refine qtq 21 ?_
                  simp only [qsa, qsb, qsc]
                  refine qtq 22 ?_
                  simp only [qsa, qsb, qsc]
                  refine wpAnyT_take2 (i := 23) (v := .bool true) rfl rfl (by kernel_rfl) (by kernel_rfl) (by kernel_rfl) (by kernel_rfl) (fun _ _ _ h => h) (Or.inl ⟨by rfl, ?_⟩) (by first | assumption | trivial) ?_
                  · (intro w hSw; (try dsimp only at hSw); go_simp) <;> (first | (with_reducible rfl) | assumption | (simp; done) | (simp [*]; done) | (simp; omega))
                  simp only [qsa, qsb, qsc]
                  refine qtq 24 ?_
                  simp only [qsa, qsb, qsc]
                  refine qtq 25 ?_
                  simp only [qsa, qsb, qsc]
                  refine wpAnyT_done (by kernel_rfl) ?_ _
                  clear hHeld
                  go_wp2_with fail
                  go_roundw
                  case rel =>
                    obtain ⟨k6, k7⟩ := HPR.out.less HUB.out HGG.out.2 HGG.out.1 hg0' (.inr ⟨hrb, hgt⟩)
                    obtain ⟨k8, k9⟩ := inner_next HGG.out.1 k7 hy1
                    exact ⟨gg - 1, rr + y1, rfl, rfl, by omega, by omega, by omega, k9, Lib.hid ⟨k8, by rw [show gg - 1 + 1 = gg by omega]; exact k6⟩, HH, Below.drew hbel⟩
                  case measure => simp [intOf]; omega
                · have HSD := Lib.hid (HPR.out.stand HGG.out.1 hg0' (by omega) (.inr (by omega)))
                  go_wp2_with fail
                  refine wp_region_T (fun W => W.cell? ⟨gu, p2, none⟩ = some (.int .i64 t0) ∧ W.cell? ⟨b2, o2 + n2, none⟩ = some (.int .i64 y0)) (fun _ => false) (by kernel_rfl) ⟨f2, e2⟩ (fun hHeld => ?_)
                  refine qtq 0 ?_
                  simp only [qsa, qsb, qsc]
                  refine wpAnyT_take2 (i := 1) (v := .bool false) rfl rfl (by kernel_rfl) (by kernel_rfl) (by kernel_rfl) (by kernel_rfl) (fun _ _ _ h => h) (Or.inl ⟨by rfl, ?_⟩) (by first | assumption | trivial) ?_
                  · (intro w hSw; (try dsimp only at hSw); go_simp) <;> (first | (with_reducible rfl) | assumption | (simp; done) | (simp [*]; done) | (simp; omega))
                  simp only [qsa, qsb, qsc]
                  refine qtq 2 ?_
                  simp only [qsa, qsb, qsc]
                  refine qtq 3 ?_
                  simp only [qsa, qsb, qsc]
                  refine wpAnyT_take2 (i := 4) (v := .bool true) rfl rfl (by kernel_rfl) (by kernel_rfl) (by kernel_rfl) (by kernel_rfl) (fun _ _ _ h => h) (Or.inl ⟨by rfl, ?_⟩) (by first | assumption | trivial) ?_
                  · (intro w hSw; (try dsimp only at hSw); go_simp) <;> (first | (with_reducible rfl) | assumption | (simp; done) | (simp [*]; done) | (simp; omega))
                  simp only [qsa, qsb, qsc]
                  refine qtq 5 ?_
                  simp only [qsa, qsb, qsc]
                  refine qtq 6 ?_
                  simp only [qsa, qsb, qsc]
                  refine qtq 7 ?_
                  simp only [qsa, qsb, qsc]
                  refine qtq 8 ?_
                  simp only [qsa, qsb, qsc]
                  refine qtq 9 ?_
                  simp only [qsa, qsb, qsc]
                  refine qtq 10 ?_
                  simp only [qsa, qsb, qsc]
                  refine qtq 11 ?_
                  simp only [qsa, qsb, qsc]
                  refine qtq 12 ?_
                  simp only [qsa, qsb, qsc]
                  refine qtq 13 ?_
                  simp only [qsa, qsb, qsc]
                  refine qtq 14 ?_
                  simp only [qsa, qsb, qsc]
                  refine qtq 15 ?_
                  simp only [qsa, qsb, qsc]
                  refine qtq 16 ?_
                  simp only [qsa, qsb, qsc]
                  refine qtq 17 ?_
                  simp only [qsa, qsb, qsc]
                  refine qtq 18 ?_
                  simp only [qsa, qsb, qsc]
                  refine qtq 19 ?_
                  simp only [qsa, qsb, qsc]
                  refine qtq 20 ?_
                  simp only [qsa, qsb, qsc]
                  refine qtq 21 ?_
                  simp only [qsa, qsb, qsc]
                  refine qtq 22 ?_
                  simp only [qsa, qsb, qsc]
                  refine wpAnyT_take2 (i := 23) (v := .bool false) rfl rfl (by kernel_rfl) (by kernel_rfl) (by kernel_rfl) (by kernel_rfl) (fun _ _ _ h => h) (Or.inl ⟨by rfl, ?_⟩) (by first | assumption | trivial) ?_
                  · (intro w hSw; (try dsimp only at hSw); go_simp) <;> (first | (with_reducible rfl) | assumption | (simp; done) | (simp [*]; done) | (simp; omega))
                  simp only [qsa, qsb, qsc]
                  refine qtq 24 ?_
                  simp only [qsa, qsb, qsc]
                  refine qtq 25 ?_
                  simp only [qsa, qsb, qsc]
                  refine wpAnyT_done (by kernel_rfl) ?_ _
                  clear hHeld
                  have hc2 := HPU'.out.le
                  have hc3 : L.length = ul.length + 1 := by rw [HLL.out]; have := HPP.out.2.2.2.2.2; omega
                  have hpj := HPP.out.1
                  have hs1 : j ≤ p + 1 := by omega
                  have hs2 : p + 1 ≤ c2 := by omega
                  have hs3 : ¬ c2 = j := by omega
                  have hs4 : (j : Int) ≤ (p : Int) + 1 := by omega
                  have hs5 : (p : Int) + 1 ≤ (c2 : Int) := by omega
                  obtain ⟨x1, x2, x3, x4, x5, x6⟩ := win_facts HS.out HNV.out (by omega)
                  have hwl : (winD L j v.length).length = p + 1 - j := by omega
                  have X1 := Lib.hid x1
                  have hdr : wr.drew.heap = wo.heap := HH.out
                  have hoU : OI (w1.heap.size + 1) wr.drew gu c2 L := HPU'.out.keep (by rw [hdr])
                  have hoQ : OI w4.heap.size wr.drew w4.heap.size M (List.replicate (j + 1) 0 ++ qs) := HPQ'.out.keep (by rw [hdr])
                  have hrV : Rd (fun b => b < w4.heap.size ∧ b ≠ gu) 1 ienc wr.drew ⟨some ⟨b2, o2, none⟩, vc, v⟩ := HPV'.out.keep (fun b _ => by rw [hdr])
                  have hsQ := hoQ.lt
                  have hSET := big_settle (w1.heap.size + 1) gu c2 j (c2 - j) L (winD L j v.length) ⟨some ⟨b2, o2, none⟩, vc, v⟩ gg wr.drew hoU (hrV.mono fun b hb => ⟨by omega, hb.2⟩) x2 x3 (by omega) (by omega) x4 HNV.out.ok x5 x6 hg0' (by omega) HSD.out HGG.out.2
                  rw [hwl] at hSET
                  simp only [Sl.v] at hSET
                  have HSET := Lib.hid hSET
                  have HOQ6 := Lib.hid hoQ
                  have HRV6 := Lib.hid hrV
                  have HX6 := Lib.hid x6
                  clear hpj hc3 x1 x2 x3 x4 x5 x6 hwl hdr hoU hoQ hrV hSET
                  go_wp2_with fail
                  refine HSET.out.mono ?_
                  rintro e w6 ⟨us', qq, rfl, hset, hoi, hgr⟩
                  have hoq := HOQ6.out.keep (w' := w6) (hgr.block _ hsQ (by intro h0; injection h0 with h0; omega))
                  have hol : j < (List.replicate (j + 1) 0 ++ qs).length := by rw [List.length_append, List.length_replicate]; omega
                  have hjM : j < M := by omega
                  obtain ⟨z, hoc⟩ : ∃ z, w6.cell? ⟨w4.heap.size, j, none⟩ = some (.int .i64 z) := ⟨_, hoq.cell hol⟩
                  have hof := hoq.frozen j
                  have hsz := hoq.lt
                  have hq6 := hoq.set hol qq
                  rw [repl_set] at hq6
                  have HQ6 := Lib.hid hq6
                  have HSETD := Lib.hid hset
                  have HOI := Lib.hid hoi
                  have HGR := Lib.hid hgr
                  clear HSET hset hoi hgr hoq hol hq6
                  go_wp2_with fail
                  go_roundw
                  case rel =>
                    refine ⟨j, winL L j (winD L j v.length) us', qq :: qs, by omega, rfl, Lib.hid ?_, Lib.hid (HOI.out.keep (Below.heap_setCell _ _ _ _ HGQ.out)), HQ6, Lib.hid ((HRV6.out.grown (g := gu) (fun b hb => ⟨by omega, hb.2⟩) HGR.out).far (fun b hb => Nat.ne_of_lt hb.1) _), ((Below.drew hbel).grown HGR.out (Below.drew hbel).size (fun k hk => by injection hk with hk; have := HWQ.out; omega)).setCell HWQ.out _⟩
                    have h := HS.out.next HNV.out.ok HX6.out HSETD.out.ok (HSETD.out.len.trans X1.out) HSETD.out.val
                    rw [← HSETD.out.quo] at h
                    rw [winL_end HSETD.out.len, X1.out]
                    exact h
                  case measure => simp [intOf]
              · have HSD := Lib.hid (HPR.out.stand HGG.out.1 hg0' (by omega) (.inl (by omega)))
                go_wp2_with fail
                refine wp_region_T (fun W => True) (fun _ => false) (by kernel_rfl) trivial (fun hHeld => ?_)
                refine qtq 0 ?_
                simp only [qsa, qsb, qsc]
                refine wpAnyT_take2 (i := 1) (v := .bool false) rfl rfl (by kernel_rfl) (by kernel_rfl) (by kernel_rfl) (by kernel_rfl) (fun _ _ _ h => h) (Or.inl ⟨by rfl, ?_⟩) (by first | assumption | trivial) ?_
                · (intro w hSw; (try dsimp only at hSw); go_simp) <;> (first | (with_reducible rfl) | assumption | (simp; done) | (simp [*]; done) | (simp; omega))
                simp only [qsa, qsb, qsc]
                refine qtq 2 ?_
                simp only [qsa, qsb, qsc]
                refine qtq 3 ?_
                simp only [qsa, qsb, qsc]
                refine wpAnyT_take2 (i := 4) (v := .bool false) rfl rfl (by kernel_rfl) (by kernel_rfl) (by kernel_rfl) (by kernel_rfl) (fun _ _ _ h => h) (Or.inl ⟨by rfl, ?_⟩) (by first | assumption | trivial) ?_
                · (intro w hSw; (try dsimp only at hSw); go_simp) <;> (first | (with_reducible rfl) | assumption | (simp; done) | (simp [*]; done) | (simp; omega))
                simp only [qsa, qsb, qsc]
                refine qtq 5 ?_
                simp only [qsa, qsb, qsc]
                refine qtn 6 ?_
                simp only [qsa, qsb, qsc]
                refine qtn 7 ?_
                simp only [qsa, qsb, qsc]
                refine qtn 8 ?_
                simp only [qsa, qsb, qsc]
                refine qtn 9 ?_
                simp only [qsa, qsb, qsc]
                refine qtn 10 ?_
                simp only [qsa, qsb, qsc]
                refine qtn 11 ?_
                simp only [qsa, qsb, qsc]
                refine qtn 12 ?_
                simp only [qsa, qsb, qsc]
                refine qtn 13 ?_
                simp only [qsa, qsb, qsc]
                refine qtn 14 ?_
                simp only [qsa, qsb, qsc]
                refine qtn 15 ?_
                simp only [qsa, qsb, qsc]
                refine qtn 16 ?_
                simp only [qsa, qsb, qsc]
                refine qtn 17 ?_
                simp only [qsa, qsb, qsc]
                refine qtn 18 ?_
                simp only [qsa, qsb, qsc]
                refine qtn 19 ?_
                simp only [qsa, qsb, qsc]
                refine qtn 20 ?_
                simp only [qsa, qsb, qsc]
                refine qtn 21 ?_
                simp only [qsa, qsb, qsc]
                refine qtn 22 ?_
                simp only [qsa, qsb, qsc]
                refine qtn 23 ?_
                simp only [qsa, qsb, qsc]
                refine qtq 24 ?_
                simp only [qsa, qsb, qsc]
                refine qtq 25 ?_
                simp only [qsa, qsb, qsc]
                refine wpAnyT_done (by kernel_rfl) ?_ _
                clear hHeld
                have hc2 := HPU'.out.le
                have hc3 : L.length = ul.length + 1 := by rw [HLL.out]; have := HPP.out.2.2.2.2.2; omega
                have hpj := HPP.out.1
                have hs1 : j ≤ p + 1 := by omega
                have hs2 : p + 1 ≤ c2 := by omega
                have hs3 : ¬ c2 = j := by omega
                have hs4 : (j : Int) ≤ (p : Int) + 1 := by omega
                have hs5 : (p : Int) + 1 ≤ (c2 : Int) := by omega
                obtain ⟨x1, x2, x3, x4, x5, x6⟩ := win_facts HS.out HNV.out (by omega)
                have hwl : (winD L j v.length).length = p + 1 - j := by omega
                have X1 := Lib.hid x1
                have hdr : wr.drew.heap = wo.heap := HH.out
                have hoU : OI (w1.heap.size + 1) wr.drew gu c2 L := HPU'.out.keep (by rw [hdr])
                have hoQ : OI w4.heap.size wr.drew w4.heap.size M (List.replicate (j + 1) 0 ++ qs) := HPQ'.out.keep (by rw [hdr])
                have hrV : Rd (fun b => b < w4.heap.size ∧ b ≠ gu) 1 ienc wr.drew ⟨some ⟨b2, o2, none⟩, vc, v⟩ := HPV'.out.keep (fun b _ => by rw [hdr])
                have hsQ := hoQ.lt
                have hSET := big_settle (w1.heap.size + 1) gu c2 j (c2 - j) L (winD L j v.length) ⟨some ⟨b2, o2, none⟩, vc, v⟩ gg wr.drew hoU (hrV.mono fun b hb => ⟨by omega, hb.2⟩) x2 x3 (by omega) (by omega) x4 HNV.out.ok x5 x6 hg0' (by omega) HSD.out HGG.out.2
                rw [hwl] at hSET
                simp only [Sl.v] at hSET
                have HSET := Lib.hid hSET
                have HOQ6 := Lib.hid hoQ
                have HRV6 := Lib.hid hrV
                have HX6 := Lib.hid x6
                clear hpj hc3 x1 x2 x3 x4 x5 x6 hwl hdr hoU hoQ hrV hSET
                go_wp2_with fail
                refine HSET.out.mono ?_
                rintro e w6 ⟨us', qq, rfl, hset, hoi, hgr⟩
                have hoq := HOQ6.out.keep (w' := w6) (hgr.block _ hsQ (by intro h0; injection h0 with h0; omega))
                have hol : j < (List.replicate (j + 1) 0 ++ qs).length := by rw [List.length_append, List.length_replicate]; omega
                have hjM : j < M := by omega
                obtain ⟨z, hoc⟩ : ∃ z, w6.cell? ⟨w4.heap.size, j, none⟩ = some (.int .i64 z) := ⟨_, hoq.cell hol⟩
                have hof := hoq.frozen j
                have hsz := hoq.lt
                have hq6 := hoq.set hol qq
                rw [repl_set] at hq6
                have HQ6 := Lib.hid hq6
                have HSETD := Lib.hid hset
                have HOI := Lib.hid hoi
                have HGR := Lib.hid hgr
                clear HSET hset hoi hgr hoq hol hq6
                go_wp2_with fail
                go_roundw
                case rel =>
                  refine ⟨j, winL L j (winD L j v.length) us', qq :: qs, by omega, rfl, Lib.hid ?_, Lib.hid (HOI.out.keep (Below.heap_setCell _ _ _ _ HGQ.out)), HQ6, Lib.hid ((HRV6.out.grown (g := gu) (fun b hb => ⟨by omega, hb.2⟩) HGR.out).far (fun b hb => Nat.ne_of_lt hb.1) _), ((Below.drew hbel).grown HGR.out (Below.drew hbel).size (fun k hk => by injection hk with hk; have := HWQ.out; omega)).setCell HWQ.out _⟩
                  have h := HS.out.next HNV.out.ok HX6.out HSETD.out.ok (HSETD.out.len.trans X1.out) HSETD.out.val
                  rw [← HSETD.out.quo] at h
                  rw [winL_end HSETD.out.len, X1.out]
                  exact h
                case measure => simp [intOf]
end Go.Proofs.YtcgocdhhneckhaaGreat
