/- Walks of package phone: Join, whole. -/
import Derived.Test.YthnblhbdfpmolaaTellsmxbk
import Derived.Test.YthnblhbdfpmolaaTellsmxay
namespace Go.Proofs.Ythnblhbdfpmolaa
open Go.RowKit
/-- Join: on an error the arguments come back; otherwise all three parts are new. -/
theorem phone_join (p : Phone) (ss : Sl Stock) (now : Sl Int) (w : World) (hr : RdPhone (· < w.heap.size) w p) (hs : RdStocks (· < w.heap.size) w ss) (hw : Rd (· < w.heap.size) 1 ienc w now) (hb : ss.l.length * 40 ≤ 140737488355328) :
    Calls Try.prog 28 #[p.v, .slice ss.A ss.l.length ss.c, .slice now.A now.l.length now.c] w fun e w' => ∃ (p' : Phone) (s' : Sl Stock) (n' : Sl Note), e = .returned (.tuple #[p'.v, .slice s'.A s'.l.length s'.c, .slice n'.A n'.l.length n'.c, .int .i64 (p.d.join (ss.l.map Stock.d) now.l).2.2.2]) ∧ p'.d = (p.d.join (ss.l.map Stock.d) now.l).1 ∧ s'.l.map Stock.d = (p.d.join (ss.l.map Stock.d) now.l).2.1 ∧ n'.l.map Note.d = (p.d.join (ss.l.map Stock.d) now.l).2.2.1 ∧
      Hid (((p.d.join (ss.l.map Stock.d) now.l).2.2.2 ≠ 0 ∧ p' = p ∧ s' = ss ∧ n' = ⟨none, 0, []⟩) ∨ ((p.d.join (ss.l.map Stock.d) now.l).2.2.2 = 0 ∧ RdPhone (fun b => w.heap.size ≤ b ∧ b < w'.heap.size) w' p' ∧ RdStocks (fun b => w.heap.size ≤ b ∧ b < w'.heap.size) w' s' ∧ RdNotes (fun b => w.heap.size ≤ b ∧ b < w'.heap.size) w' n')) ∧ Below w.heap.size w w' := by
  rcases hf : okJoin p.d (ss.l.map Stock.d) now.l
  · refine (phone_join_no p ss now w hr hs hw hb hf).mono ?_
    rintro e w' ⟨rfl, hbw⟩
    have hj : p.d.join (ss.l.map Stock.d) now.l = (p.d, ss.l.map Stock.d, [], 1) := by unfold PhoneD.join; rw [hf]; rfl
    rw [hj]
    exact ⟨p, ss, ⟨none, 0, []⟩, rfl, rfl, rfl, rfl, .inl ⟨by simp, rfl, rfl, rfl⟩, hbw⟩
  · have hf' := hf
    simp only [okJoin, Bool.and_eq_true] at hf'
    obtain ⟨hF, hG, hK⟩ := hf'
    rcases hc : p.cut
    · refine (phone_join_on p ss now w hr hs hw hb hF hG hK hc).mono ?_
      rintro e w' ⟨rfl, hbw⟩
      have hc' : p.d.cut = false := hc
      have hj : p.d.join (ss.l.map Stock.d) now.l = (p.d, ss.l.map Stock.d, [], 7) := by unfold PhoneD.join; rw [hf, if_pos rfl, if_neg (by rw [hc']; simp)]
      rw [hj]
      exact ⟨p, ss, ⟨none, 0, []⟩, rfl, rfl, rfl, rfl, .inl ⟨by simp, rfl, rfl, rfl⟩, hbw⟩
    · have hc' : p.d.cut = true := hc
      have hj : p.d.join (ss.l.map Stock.d) now.l = ({ p.d with cut := false, H := [], S := seenJ p.id 0 p.S.l now.l }, joinGo p.id p.H.l (ss.l.map Stock.d), p.N.l.map Note.d, 0) := by unfold PhoneD.join; rw [hf, if_pos rfl, if_pos hc']; rfl
      rw [hj]
      refine (phone_join_ok p ss now w hr hs hw hb hF hG hK hc).mono ?_
      rintro e w' ⟨p', s', n', rfl, h1, h2, h3, h4, h5, h6, hbw⟩
      exact ⟨p', s', n', rfl, h1, h2, h3, .inr ⟨rfl, h4, h5, h6⟩, hbw⟩
end Go.Proofs.Ythnblhbdfpmolaa
/- Walks of the helpers of the laws of layer 43: the small examples. -/
namespace Go.Proofs.Ythnblhbdfpmolaa
open Go.RowKit
theorem cutT {G : Prop} (T : Prop) (main : T → G) (fin : T) : G := main fin
section
variable {P : Program} {ops : Array Oper} {Q : Exit → Act → World → Prop} {md : Region.Mode} {S : World → Prop} {T : Nat → Bool}
theorem wpAnyT_three {i j l : Nat} {o o' o'' : Oper} {fuel : Nat} {listed : Array Bool} {a : Act} {w : World} (hr : Region.ready md ops listed = [i, j, l]) (ho : ops[i]? = some o) (ho' : ops[j]? = some o') (ho'' : ops[l]? = some o'')
    (h : wpList P ops (QT Q fun a' w' => (T i = false → S w') ∧ wpAnyT P md ops Q S T fuel (listed.setIfInBounds i true) a' w') [o] a w)
    (h' : wpList P ops (QT Q fun a' w' => (T j = false → S w') ∧ wpAnyT P md ops Q S T fuel (listed.setIfInBounds j true) a' w') [o'] a w)
    (h'' : wpList P ops (QT Q fun a' w' => (T l = false → S w') ∧ wpAnyT P md ops Q S T fuel (listed.setIfInBounds l true) a' w') [o''] a w) : wpAnyT P md ops Q S T (fuel + 1) listed a w := by
  refine ⟨fun h0 => ?_, fun k hk => ?_⟩
  · rw [hr] at h0; cases h0
  · rw [hr] at hk
    rcases List.mem_cons.1 hk with rfl | hk
    · exact wpOp_of_list ho h
    · rcases List.mem_cons.1 hk with rfl | hk
      · exact wpOp_of_list ho' h'
      · rcases List.mem_singleton.1 hk with rfl
        exact wpOp_of_list ho'' h''
end
def nB : ByteArray := ⟨#[110]⟩
def P0 : PhoneD := ⟨3, false, [], [], List.replicate 12 0⟩
def P1 : PhoneD := ⟨3, false, [⟨0, 6, 0⟩], [], List.replicate 12 0⟩
def P2 : PhoneD := ⟨3, true, [⟨0, 6, 0⟩], [], List.replicate 12 0⟩
def P3 : PhoneD := ⟨3, true, [⟨0, 6, 4⟩], [⟨3, 0, List.replicate 12 0, 100, nB⟩], List.replicate 12 0⟩
def P4 : PhoneD := ⟨3, false, [], [⟨3, 0, List.replicate 12 0, 100, nB⟩], List.replicate 12 0⟩
theorem sm_new : newP 3 = (P0, 0) := rfl
theorem sm_lend : P0.lend [⟨10, 0, []⟩] 0 6 = (P1, [⟨10, 0, [⟨3, 6, 0⟩]⟩], 0) := by rfl
theorem sm_cut : P1.cutS = (P2, 0) := by rfl
theorem sm_pro1 : P2.promise 0 4 100 nB = (P3, 0) := by rfl
theorem sm_pro2 : (P3.promise 0 3 101 nB).2 = 21 := by rfl
theorem sm_pro3 : (P3.promise 0 2 99 nB).2 = 19 := by rfl
theorem sm_take1 : (StockD.take ⟨10, 0, [⟨3, 6, 0⟩]⟩ 5).2 = 21 := by rfl
theorem sm_take2 : StockD.take ⟨10, 0, [⟨3, 6, 0⟩]⟩ 4 = (⟨10, 4, [⟨3, 6, 0⟩]⟩, 0) := by rfl
theorem sm_join : P3.join [⟨10, 4, [⟨3, 6, 0⟩]⟩] (List.replicate 12 0) = (P4, [⟨10, 8, []⟩], P3.N, 0) := by rfl
theorem sm_right : P4.right = true := by rfl
theorem sm_free : StockD.free ⟨10, 8, []⟩ = 2 := by rfl
end Go.Proofs.Ythnblhbdfpmolaa
