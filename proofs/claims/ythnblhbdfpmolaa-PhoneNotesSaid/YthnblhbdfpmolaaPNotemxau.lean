/- Walks of package phone: Join, whole. -/
import Derived.Test.YthnblhbdfpmolaaPNotemxat
import Derived.Shelf.SlSortCmp.WholeK
import Derived.Test.YthnblhbdfpmolaaProg
import Derived.Test.YthnblhbdfpmolaaPNotemxak
import Derived.Test.YthnblhbdfpmolaaPNotemxao
namespace Go.Proofs.Ythnblhbdfpmolaa
open Go.RowKit
/-- Join: on an error the arguments come back; otherwise all three parts are new. -/
theorem phone_join_o (p : Phone) (ss : Sl Stock) (now : Sl Int) (w : World) (hr : RdPhone (· < w.heap.size) w p) (hs : RdStocks (· < w.heap.size) w ss) (hw : Rd (· < w.heap.size) 1 ienc w now) (hb : ss.l.length * 40 ≤ 140737488355328) :
    Calls Try.prog 28 #[p.v, .slice ss.A ss.l.length ss.c, .slice now.A now.l.length now.c] w fun e w' => ∃ (p' : Phone) (s' : Sl Stock) (n' : Sl Note), e = .returned (.tuple #[p'.v, .slice s'.A s'.l.length s'.c, .slice n'.A n'.l.length n'.c, .int .i64 (p.d.join (ss.l.map Stock.d) now.l).2.2.2]) ∧ p'.d = (p.d.join (ss.l.map Stock.d) now.l).1 ∧ s'.l.map Stock.d = (p.d.join (ss.l.map Stock.d) now.l).2.1 ∧ n'.l.map Note.d = (p.d.join (ss.l.map Stock.d) now.l).2.2.1 ∧
      Hid (((p.d.join (ss.l.map Stock.d) now.l).2.2.2 ≠ 0 ∧ p' = p ∧ s' = ss ∧ n' = ⟨none, 0, []⟩) ∨ ((p.d.join (ss.l.map Stock.d) now.l).2.2.2 = 0 ∧ RdPhone (fun b => w.heap.size ≤ b ∧ b < w'.heap.size) w' p' ∧ RdStocks (fun b => w.heap.size ≤ b ∧ b < w'.heap.size) w' s' ∧ RdNotes (fun b => w.heap.size ≤ b ∧ b < w'.heap.size) w' n' ∧ Own w.heap.size 66 3 Stock.enc w' s' ∧ SepR p' s')) ∧ Below w.heap.size w w' := by
  rcases hf : okJoin p.d (ss.l.map Stock.d) now.l
  · refine (phone_join_no p ss now w hr hs hw hb hf).mono ?_
    rintro e w' ⟨rfl, hbw⟩
    have hj : p.d.join (ss.l.map Stock.d) now.l = (p.d, ss.l.map Stock.d, [], 1) := by unfold PhoneD.join; rw [hf]; rfl
    rw [hj]
    exact ⟨p, ss, ⟨none, 0, []⟩, rfl, rfl, rfl, rfl, .inl ⟨by simp, rfl, rfl, rfl⟩, hbw⟩
  · have hf' := hf
    simp only [okJoin, Bool.and_eq_true] at hf'
    obtain ⟨hF, hG, hK⟩ := hf'
    rcases hc : p.cut
    · refine (phone_join_on p ss now w hr hs hw hb hF hG hK hc).mono ?_
      rintro e w' ⟨rfl, hbw⟩
      have hc' : p.d.cut = false := hc
      have hj : p.d.join (ss.l.map Stock.d) now.l = (p.d, ss.l.map Stock.d, [], 7) := by unfold PhoneD.join; rw [hf, if_pos rfl, if_neg (by rw [hc']; simp)]
      rw [hj]
      exact ⟨p, ss, ⟨none, 0, []⟩, rfl, rfl, rfl, rfl, .inl ⟨by simp, rfl, rfl, rfl⟩, hbw⟩
    · have hc' : p.d.cut = true := hc
      have hj : p.d.join (ss.l.map Stock.d) now.l = ({ p.d with cut := false, H := [], S := seenJ p.id 0 p.S.l now.l }, joinGo p.id p.H.l (ss.l.map Stock.d), p.N.l.map Note.d, 0) := by unfold PhoneD.join; rw [hf, if_pos rfl, if_pos hc']; rfl
      rw [hj]
      refine (phone_join_ok p ss now w hr hs hw hb hF hG hK hc).mono ?_
      rintro e w' ⟨p', s', n', rfl, h1, h2, h3, h4, h5, h6, h7, hbw⟩
      exact ⟨p', s', n', rfl, h1, h2, h3, .inr ⟨rfl, h4, h5, h6, h7.1, h7.2⟩, hbw⟩
theorem phone_join (p : Phone) (ss : Sl Stock) (now : Sl Int) (w : World) (hr : RdPhone (· < w.heap.size) w p) (hs : RdStocks (· < w.heap.size) w ss) (hw : Rd (· < w.heap.size) 1 ienc w now) (hb : ss.l.length * 40 ≤ 140737488355328) :
    Calls Try.prog 28 #[p.v, .slice ss.A ss.l.length ss.c, .slice now.A now.l.length now.c] w fun e w' => ∃ (p' : Phone) (s' : Sl Stock) (n' : Sl Note), e = .returned (.tuple #[p'.v, .slice s'.A s'.l.length s'.c, .slice n'.A n'.l.length n'.c, .int .i64 (p.d.join (ss.l.map Stock.d) now.l).2.2.2]) ∧ p'.d = (p.d.join (ss.l.map Stock.d) now.l).1 ∧ s'.l.map Stock.d = (p.d.join (ss.l.map Stock.d) now.l).2.1 ∧ n'.l.map Note.d = (p.d.join (ss.l.map Stock.d) now.l).2.2.1 ∧
      Hid (((p.d.join (ss.l.map Stock.d) now.l).2.2.2 ≠ 0 ∧ p' = p ∧ s' = ss ∧ n' = ⟨none, 0, []⟩) ∨ ((p.d.join (ss.l.map Stock.d) now.l).2.2.2 = 0 ∧ RdPhone (fun b => w.heap.size ≤ b ∧ b < w'.heap.size) w' p' ∧ RdStocks (fun b => w.heap.size ≤ b ∧ b < w'.heap.size) w' s' ∧ RdNotes (fun b => w.heap.size ≤ b ∧ b < w'.heap.size) w' n')) ∧ Below w.heap.size w w' := by
  refine (phone_join_o p ss now w hr hs hw hb).mono ?_
  rintro e w' ⟨p', s', n', h1, h2, h3, h4, h5, h6⟩
  refine ⟨p', s', n', h1, h2, h3, h4, ?_, h6⟩
  rcases h5.out with h | ⟨h, a, b, c, _⟩
  · exact .inl h
  · exact .inr ⟨h, a, b, c⟩
end Go.Proofs.Ythnblhbdfpmolaa
/- The library's contract of slices.SortFunc at notes, laid at this program by the kit's tool. It holds without condition beyond its own. -/
namespace Go.Proofs
open Go.Shelf
def Try.sortNote_ren : Go.Shelf.Ren := ⟨fun | 6 => 80 | 15 => 121 | 14 => 120 | 28 => 140 | 29 => 141 | 20 => 132 | 21 => 133 | 22 => 134 | 23 => 135 | 24 => 136 | 25 => 137 | 26 => 138 | 27 => 139 | 46 => 144 | 47 => 145 | 48 => 146 | 49 => 147 | 50 => 148 | 57 => 150 | n => n, fun | 22 => 23 | 24 => 61 | 25 => 121 | 3 => 3 | 39 => 154 | 0 => 0 | 53 => 170 | 55 => 172 | 4 => 4 | 46 => 164 | 45 => 163 | 50 => 100 | 5 => 5 | 9 => 9 | 66 => 174 | 70 => 178 | 76 => 181 | 77 => 182 | n => n, fun | n => n⟩
theorem Try.sortNote : Go.Proofs.SlLaysF0.n6 Try.prog Try.sortNote_ren := {
  mixed := by kernel_rfl
  f6 := ⟨Try.f80.name, by decide, Try.func80.trans (congrArg some (by kernel_rfl))⟩
  f14 := ⟨Try.f120.name, by decide, Try.func120.trans (congrArg some (by kernel_rfl))⟩
  f15 := Try.func121.trans (congrArg some (by kernel_rfl))
  f20 := ⟨Try.f132.name, by decide, Try.func132.trans (congrArg some (by kernel_rfl))⟩
  f21 := ⟨Try.f133.name, by decide, Try.func133.trans (congrArg some (by kernel_rfl))⟩
  f22 := ⟨Try.f134.name, by decide, Try.func134.trans (congrArg some (by kernel_rfl))⟩
  f23 := ⟨Try.f135.name, by decide, Try.func135.trans (congrArg some (by kernel_rfl))⟩
  f24 := ⟨Try.f136.name, by decide, Try.func136.trans (congrArg some (by kernel_rfl))⟩
  f25 := ⟨Try.f137.name, by decide, Try.func137.trans (congrArg some (by kernel_rfl))⟩
  f26 := ⟨Try.f138.name, by decide, Try.func138.trans (congrArg some (by kernel_rfl))⟩
  f27 := ⟨Try.f139.name, by decide, Try.func139.trans (congrArg some (by kernel_rfl))⟩
  f28 := Try.func140.trans (congrArg some (by kernel_rfl))
  f29 := Try.func141.trans (congrArg some (by kernel_rfl))
  f46 := ⟨Try.f144.name, by decide, Try.func144.trans (congrArg some (by kernel_rfl))⟩
  f47 := Try.func145.trans (congrArg some (by kernel_rfl))
  f48 := Try.func146.trans (congrArg some (by kernel_rfl))
  f49 := ⟨Try.f147.name, by decide, Try.func147.trans (congrArg some (by kernel_rfl))⟩
  f50 := ⟨Try.f148.name, by decide, Try.func148.trans (congrArg some (by kernel_rfl))⟩
  f57 := ⟨Try.f150.name, by decide, Try.func150.trans (congrArg some (by kernel_rfl))⟩
  t0 := Try.underlying0
  a0 := Try.isAgg0
  z0 := Try.sizeOf0
  v0 := Try.zeroValue0
  t3 := Try.underlying3
  a3 := Try.isAgg3
  z3 := Try.sizeOf3
  v3 := Try.zeroValue3
  t4 := Try.underlying4
  a4 := Try.isAgg4
  z4 := Try.sizeOf4
  v4 := Try.zeroValue4
  t5 := Try.underlying5
  a5 := Try.isAgg5
  z5 := Try.sizeOf5
  v5 := Try.zeroValue5
  t9 := Try.underlying9
  a9 := Try.isAgg9
  z9 := Try.sizeOf9
  v9 := Try.zeroValue9
  t22 := Try.underlying23
  a22 := Try.isAgg23
  z22 := Try.sizeOf23
  v22 := Try.zeroValue23
  t25 := Try.underlying121
  a25 := Try.isAgg121
  z25 := Try.sizeOf121
  v25 := Try.zeroValue121
  t39 := Try.underlying154
  a39 := Try.isAgg154
  z39 := Try.sizeOf154
  v39 := Try.zeroValue154
  t45 := Try.underlying163
  a45 := Try.isAgg163
  z45 := Try.sizeOf163
  v45 := Try.zeroValue163
  t46 := Try.underlying164
  a46 := Try.isAgg164
  z46 := Try.sizeOf164
  v46 := Try.zeroValue164
  t50 := Try.underlying100
  a50 := Try.isAgg100
  z50 := Try.sizeOf100
  v50 := Try.zeroValue100
  t53 := Try.underlying170
  a53 := Try.isAgg170
  z53 := Try.sizeOf170
  v53 := Try.zeroValue170
  t55 := Try.underlying172
  a55 := Try.isAgg172
  z55 := Try.sizeOf172
  v55 := Try.zeroValue172
  t66 := Try.underlying174
  a66 := Try.isAgg174
  z66 := Try.sizeOf174
  v66 := Try.zeroValue174
  t70 := Try.underlying178
  a70 := Try.isAgg178
  z70 := Try.sizeOf178
  v70 := Try.zeroValue178
  t76 := Try.underlying181
  a76 := Try.isAgg181
  z76 := Try.sizeOf181
  v76 := Try.zeroValue181
  t77 := Try.underlying182
  a77 := Try.isAgg182
  z77 := Try.sizeOf182
  v77 := Try.zeroValue182 }
end Go.Proofs
/- Walks of the reference of layer 41: what is right, seen, the same. -/
namespace Go.Proofs.Ythnblhbdfpmolaa
open Go.RowKit
set_option maxHeartbeats 400000 in
theorem in40_any (n a b : Int) (w : World) : Calls Try.prog 116 #[.int .i64 n, .int .i64 a, .int .i64 b] w fun e w' => e = .returned (.bool (rngB n a b)) ∧ w = w' := by
  go_enter Try.func116, Try.ntmps116
  go_wp2
  all_goals
    go_ret
    exact ⟨ret_bool (by simp only [rngB]; simp; try omega), rfl⟩
set_option maxHeartbeats 400000 in
theorem in43_any (n a b : Int) (w : World) : Calls Try.prog 54 #[.int .i64 n, .int .i64 a, .int .i64 b] w fun e w' => e = .returned (.bool (rngB n a b)) ∧ w = w' := by
  go_enter Try.func54, Try.ntmps54
  go_wp2
  all_goals
    go_ret
    exact ⟨ret_bool (by simp only [rngB]; simp; try omega), rfl⟩
set_option maxHeartbeats 400000 in
theorem in41_any (n b : Int) (w : World) : Calls Try.prog 125 #[.int .i64 n, .int .i64 b] w fun e w' => e = .returned (.bool (rngB n 0 b)) ∧ w = w' := by
  go_enter Try.func125, Try.ntmps125
  go_wp2
  all_goals
    go_ret
    exact ⟨ret_bool (by simp only [rngB]; simp; try omega), rfl⟩
def seenN (l : List Int) (d : Int) : Int := if 0 ≤ d ∧ d < l.length then l.getD d.toNat 0 else 0
set_option maxHeartbeats 800000 in
theorem rseen (n : Note) (d : Int) (w : World) (hr : Rd (· < w.heap.size) 1 ienc w n.af) :
    Calls Try.prog 95 #[n.v, .int .i64 d] w fun e w' => e = .returned (.int .i64 (seenN n.af.l d)) ∧ Below w.heap.size w w' := by
  obtain ⟨nd, ns, ⟨A, c, l⟩, nt, nx⟩ := n
  have HR := Lib.hid hr
  clear hr
  simp only [Note.v]
  by_cases h : 0 ≤ d ∧ d < l.length
  · obtain ⟨j, rfl⟩ := Int.eq_ofNat_of_zero_le h.1
    have hj : j < l.length := by omega
    obtain ⟨b, o, rfl, hb, hcl⟩ := HR.out.at1 hj
    have g0 := hcl.c1
    simp only [Nat.mul_one] at g0
    have hv : seenN l j = l[j] := by unfold seenN; rw [if_pos h]; simp [List.getD, hj]
    have HV := Lib.hid hv
    clear hv h hcl
    generalize l[j] = y at *
    go_enter Try.func95, Try.ntmps95
    go_wp2_with fail
    go_ret
    exact ⟨ret_int HV.out.symm, qbl⟩
  · have hv : seenN l d = 0 := by unfold seenN; rw [if_neg h]
    have HV := Lib.hid hv
    clear hv
    rcases Int.lt_or_le d 0 with h' | h'
    · go_enter Try.func95, Try.ntmps95
      go_wp2_with fail
      go_ret
      exact ⟨ret_int HV.out.symm, qbl⟩
    · have h2 : (l.length : Int) ≤ d := by omega
      go_enter Try.func95, Try.ntmps95
      go_wp2_with fail
      go_ret
      exact ⟨ret_int HV.out.symm, qbl⟩
set_option maxHeartbeats 1000000 in
theorem rone_no (n : Note) (w : World) (h0 : n.d.ok0 = false) :
    Calls Try.prog 93 #[n.v] w fun e w' => e = .returned (.bool false) ∧ Below w.heap.size w w' := by
  obtain ⟨d, s, ⟨A, c, l⟩, t, x⟩ := n
  simp only [Note.d, NoteD.ok0] at h0
  simp only [Note.v]
  rcases h1 : rngB d 0 11
  rotate_left
  rcases h2 : rngB s 0 9999
  rotate_left
  rcases h3 : rngB t 0 1048576
  rotate_left
  rcases Nat.lt_or_ge 12 l.length with h4 | h4
  rotate_left
  have h5 : 20000 < x.size := Nat.lt_of_not_le (fun hc => by simp [h1, h2, h3, h4, hc] at h0)
  all_goals
    clear h0
    go_enter Try.func93, Try.ntmps93
    go_wp2_with (go_at_call 125; refine (in41_any _ _ _).mono ?_; rintro e w' ⟨rfl, rfl⟩)
    go_ret
    exact ⟨rfl, qbl⟩
set_option maxHeartbeats 1000000 in
theorem rone_yes (n : Note) (w : World) (hr : Rd (· < w.heap.size) 1 ienc w n.af) (h0 : n.d.ok0 = true) :
    Calls Try.prog 93 #[n.v] w fun e w' => e = .returned (.bool (afOk n.dev 0 n.af.l)) ∧ Below w.heap.size w w' := by
  obtain ⟨d, s, ⟨A, c, l⟩, t, x⟩ := n
  simp only [Note.d, NoteD.ok0, Bool.and_eq_true, decide_eq_true_eq] at h0
  obtain ⟨h1, h2, h3, h4, h5⟩ := h0
  have h4' : l.length ≤ 12 := of_decide_eq_true h4
  have h5' : x.size ≤ 20000 := of_decide_eq_true h5
  clear h4 h5
  have h4 : (l.length : Int) ≤ 12 := by omega
  have h5 : (x.size : Int) ≤ 20000 := by omega
  have HR := Lib.hid hr
  clear hr
  simp only [Note.v]
  go_enter Try.func93, Try.ntmps93
  go_wp2_with (go_at_call 125; refine (in41_any _ _ _).mono ?_; rintro e w' ⟨rfl, rfl⟩)
  go_loopw [3] (fun i wr => ∃ (k : Nat), k ≤ l.length ∧ i = .int .i64 k ∧ Blk wr w.heap.size 61 #[.int .i64 d, .int .i64 s, .slice A l.length c, .int .i64 t, .string x] ∧ Below w.heap.size w wr ∧ afOk d 0 l = afOk d k (l.drop k)) (fun i _ => l.length - (intOf i).toNat)
  case atStart => exact ⟨0, by omega, rfl, Blk.new _ _ _, qbl, by simp⟩
  case round =>
    obtain ⟨k, hk, rfl, hblk, hbel, heq⟩ := hrel
    obtain ⟨a0, a1, a2, a3, a4, af, az⟩ := hblk.b5
    have HB := Lib.hid hblk
    clear hblk
    by_cases hlt : k < l.length
    · obtain ⟨b, o, rfl, hb, hcl⟩ := HR.out.at1 hlt
      have g0 := (hcl.keep (hbel.block b hb)).c1
      have hd : l.drop k = l[k] :: l.drop (k + 1) := List.drop_eq_getElem_cons hlt
      rw [hd] at heq
      have HE := Lib.hid heq
      clear hd heq hcl HR
      simp only [Nat.mul_one] at g0
      generalize l[k] = y at *
      rcases hy : rngB y 0 10000
      · have HY := Lib.hid hy
        go_wp2_with (go_at_call 125; refine (in41_any _ _ _).mono ?_; rintro e w' ⟨rfl, rfl⟩)
        go_ret
        exact ⟨ret_bool (by rw [HE.out, afOk_no (.inl HY.out)]), hbel⟩
      · have HY := Lib.hid hy
        by_cases hkd : (k : Int) = d
        · by_cases hy0 : y = 0
          · have e1 : ((k : Int) == d) = true := by simp [hkd]
            have e2 : (y != 0) = false := by simp [hy0]
            have H1 := Lib.hid hkd
            have H2 := Lib.hid hy0
            clear hkd hy0
            go_wp2_with (go_at_call 125; refine (in41_any _ _ _).mono ?_; rintro e w' ⟨rfl, rfl⟩)
            go_roundw
            case rel => exact ⟨k + 1, by omega, by go_num, HB.out, hbel, by rw [HE.out, afOk_go2 HY.out (fun hc => hc.2 H2.out)]; simp⟩
            case measure => simp [intOf]; omega
          · have e1 : ((k : Int) == d) = true := by simp [hkd]
            have e2 : (y != 0) = true := by simp [hy0]
            have H1 := Lib.hid hkd
            have H2 := Lib.hid hy0
            clear hkd hy0
            go_wp2_with (go_at_call 125; refine (in41_any _ _ _).mono ?_; rintro e w' ⟨rfl, rfl⟩)
            go_ret
            exact ⟨ret_bool (by rw [HE.out, afOk_no (.inr ⟨H1.out, H2.out⟩)]), hbel⟩
        · have e1 : ((k : Int) == d) = false := by simp [hkd]
          have H1 := Lib.hid hkd
          clear hkd
          go_wp2_with (go_at_call 125; refine (in41_any _ _ _).mono ?_; rintro e w' ⟨rfl, rfl⟩)
          go_roundw
          case rel => exact ⟨k + 1, by omega, by go_num, HB.out, hbel, by rw [HE.out, afOk_go2 HY.out (fun hc => H1.out hc.1)]; simp⟩
          case measure => simp [intOf]; omega
    · have hkl : l.drop k = [] := List.drop_eq_nil_of_le (by omega)
      rw [hkl] at heq
      have HE := Lib.hid heq
      clear hkl heq HR
      go_wp2_with fail
      go_ret
      exact ⟨ret_bool (by rw [HE.out]; rfl), hbel⟩
theorem rone (n : Note) (w : World) (hr : Rd (· < w.heap.size) 1 ienc w n.af) :
    Calls Try.prog 93 #[n.v] w fun e w' => e = .returned (.bool n.d.right) ∧ Below w.heap.size w w' := by
  unfold NoteD.right
  rcases h : n.d.ok0
  · exact rone_no n w h
  · exact rone_yes n w hr h
end Go.Proofs.Ythnblhbdfpmolaa
/- Walks of the reference of layer 41: lists. -/
namespace Go.Proofs.Ythnblhbdfpmolaa
open Go.RowKit
/-- It returns a bool of which P holds. -/
def AnyB (P : Bool → Prop) (e : Ending) : Prop := ∃ b, e = .returned (.bool b) ∧ P b
def NoteD.same (a b : NoteD) : Bool := decide (∀ i, i < max a.af.length b.af.length → seenN a.af i = seenN b.af i) && (decide (a.dev = b.dev) && (decide (a.seq = b.seq) && (decide (a.tm = b.tm) && decide (a.tx = b.tx))))
def listsN : List NoteD → List NoteD → Bool
  | [], [] => true
  | a :: l, b :: m => a.same b && listsN l m
  | _, _ => false
theorem listsN_len : ∀ {l m : List NoteD}, l.length ≠ m.length → listsN l m = false
  | [], [], h => absurd rfl h
  | [], _ :: _, _ => rfl
  | _ :: _, [], _ => rfl
  | a :: l, b :: m, h => by simp only [listsN]; rw [listsN_len (by simpa using h)]; simp
theorem NoteD.same_refl (a : NoteD) : a.same a = true := by simp [NoteD.same]
theorem listsN_refl : ∀ l : List NoteD, listsN l l = true
  | [] => rfl
  | a :: l => by simp [listsN, NoteD.same_refl, listsN_refl l]
theorem all_false {α : Type} {p : α → Bool} {l : List α} {x : α} (hx : x ∈ l) (h : p x = false) : l.all p = false := by
  rcases ha : l.all p
  · rfl
  · rw [List.all_eq_true] at ha
    have := ha x hx; rw [h] at this; cases this
set_option maxHeartbeats 1000000 in
theorem rright41 (s : Sl Note) (w : World) (hr : RdNotes (· < w.heap.size) w s) :
    Calls Try.prog 41 #[.slice s.A s.l.length s.c] w fun e w' => e = .returned (.bool (notesR (s.l.map Note.d))) ∧ Below w.heap.size w w' := by
  obtain ⟨A, c, l⟩ := s
  have hn := hr.1.len
  simp only at hn
  have HR := Lib.hid hr
  clear hr
  simp only
  unfold notesR
  by_cases h : 10000 < l.length
  · have h' : (10000 : Int) < l.length := by omega
    have hv : (decide ((l.map Note.d).length ≤ 10000) && (l.map Note.d).all NoteD.right) = false := by simp; omega
    have HV := Lib.hid hv
    clear hv
    go_enter Try.func41, Try.ntmps41
    go_wp2_with fail
    go_ret
    exact ⟨ret_bool HV.out.symm, qbl⟩
  · have h' : (l.length : Int) ≤ 10000 := by omega
    have hv : (decide ((l.map Note.d).length ≤ 10000) && (l.map Note.d).all NoteD.right) = (l.map Note.d).all NoteD.right := by simp; omega
    rw [hv]
    clear hv
    go_enter Try.func41, Try.ntmps41
    go_wp2_with fail
    go_loopw [3] (fun i wr => ∃ (k : Nat), k ≤ l.length ∧ i = .int .i64 k ∧ Below w.heap.size w wr ∧ (∀ j x, j < k → l[j]? = some x → x.d.right = true)) (fun i _ => l.length - (intOf i).toNat)
    case atStart => exact ⟨0, by omega, rfl, qbl, fun j x hj => absurd hj (Nat.not_lt_zero _)⟩
    case round =>
      obtain ⟨k, hk, rfl, hbel, hall⟩ := hrel
      have HALL := Lib.hid hall
      clear hall
      have hhe : w.heap.size ≤ wr.heap.size := hbel.size
      by_cases hlt : k < l.length
      · obtain ⟨b, o, rfl, hb, hcl⟩ := HR.out.1.at1 hlt
        obtain ⟨g0, g1, g2, g3, g4⟩ := Cells.c5 (hcl.keep (hbel.block b hb))
        have hxk : l[k]? = some l[k] := List.getElem?_eq_getElem hlt
        have hmem : l[k] ∈ l := List.getElem_mem hlt
        generalize l[k] = x at *
        have HAF := Lib.hid (HR.out.2 _ hmem)
        have HXK := Lib.hid hxk
        have HM := Lib.hid hmem
        clear hxk hcl hmem
        obtain ⟨xd, xs, xa, xt, xx⟩ := x
        go_wp2_with fail
        refine (rone ⟨xd, xs, xa, xt, xx⟩ _ (HAF.out.below' hbel (Nat.le_refl _))).mono ?_
        rintro e w1 ⟨rfl, hb1⟩
        rcases hz : NoteD.right (Note.d ⟨xd, xs, xa, xt, xx⟩)
        · have hv : (l.map Note.d).all NoteD.right = false := all_false (List.mem_map_of_mem (f := Note.d) HM.out) hz
          have HV := Lib.hid hv
          clear hv hz
          go_wp2_with fail
          go_ret
          exact ⟨ret_bool HV.out.symm, qbv⟩
        · have HZ := Lib.hid hz
          clear hz
          go_wp2_with fail
          go_roundw
          case rel =>
            refine ⟨k + 1, by omega, by go_num, qbv, fun j x hj hx => ?_⟩
            rcases Nat.lt_or_ge j k with h1 | h1
            · exact HALL.out j x h1 hx
            · obtain rfl : j = k := by omega
              rw [HXK.out] at hx; injection hx with hx; subst hx; exact HZ.out
          case measure => simp [intOf]; omega
      · have hv : (l.map Note.d).all NoteD.right = true := by
          simp only [List.all_map, List.all_eq_true]
          intro x hx
          obtain ⟨j, hj⟩ := List.getElem?_of_mem hx
          have := (List.getElem?_eq_some_iff.1 hj).1
          exact HALL.out j x (by omega) hj
        have HV := Lib.hid hv
        clear hv
        go_wp2_with fail
        go_ret
        exact ⟨ret_bool HV.out.symm, qbv⟩
set_option maxHeartbeats 1000000 in
theorem rfew41 (s : Sl Note) (n : Nat) (hn1 : n ≤ 1000) (w : World) (hr : RdNotes (· < w.heap.size) w s) :
    Calls Try.prog 34 #[.slice s.A s.l.length s.c, .int .i64 n] w fun e w' => AnyB (fun b => b = true → s.l.length ≤ n) e ∧ Below w.heap.size w w' := by
  obtain ⟨A, c, l⟩ := s
  have hn := hr.1.len
  simp only at hn
  have HR := Lib.hid hr
  clear hr
  simp only
  go_enter Try.func34, Try.ntmps34
  go_wp2_with fail
  go_loopw [5] (fun i wr => ∃ (k : Nat), k ≤ l.length ∧ k ≤ n + 1 ∧ i = .int .i64 k ∧ Below w.heap.size w wr) (fun i _ => l.length - (intOf i).toNat)
  case atStart => exact ⟨0, by omega, by omega, rfl, qbl⟩
  case round =>
    obtain ⟨k, hk, hkn, rfl, hbel⟩ := hrel
    have hhe : w.heap.size ≤ wr.heap.size := hbel.size
    have fin : (l.length ≤ n → decide ((l.length : Int) ≤ n) = true) ∧ (decide ((l.length : Int) ≤ n) = true → l.length ≤ n) := ⟨fun h => by simpa using h, fun h => by simpa using h⟩
    have HF := Lib.hid fin
    clear fin
    by_cases hlt : k < l.length
    · rcases Nat.lt_or_ge n k with hkn' | hkn'
      · have h3 : (n : Int) < k := by omega
        go_wp2_with fail
        go_ret
        exact ⟨⟨decide ((l.length : Int) ≤ n), ret_bool (by simp), HF.out.2⟩, hbel⟩
      · have h3 : (k : Int) ≤ n := by omega
        obtain ⟨b, o, rfl, hb, hcl⟩ := HR.out.1.at1 hlt
        obtain ⟨g0, g1, g2, g3, g4⟩ := Cells.c5 (hcl.keep (hbel.block b hb))
        generalize l[k] = x at *
        obtain ⟨xd, xs, ⟨xA, xc, xl⟩, xt, xx⟩ := x
        clear hcl
        have hx1 : (200 < (xx.size : Int)) ∨ (xx.size : Int) ≤ 200 := by omega
        have hx2 : (20 < (xl.length : Int)) ∨ (xl.length : Int) ≤ 20 := by omega
        rcases hx1 with hx1 | hx1
        rotate_left
        rcases hx2 with hx2 | hx2
        rotate_left
        all_goals go_wp2_with fail
        · go_roundw
          case rel => exact ⟨k + 1, by omega, by omega, by go_num, hbel⟩
          case measure => simp [intOf]; omega
        all_goals
          go_ret
          exact ⟨⟨false, rfl, fun h => by cases h⟩, hbel⟩
    · go_wp2_with fail
      go_ret
      exact ⟨⟨decide ((l.length : Int) ≤ n), ret_bool (by simp), HF.out.2⟩, hbel⟩
end Go.Proofs.Ythnblhbdfpmolaa
