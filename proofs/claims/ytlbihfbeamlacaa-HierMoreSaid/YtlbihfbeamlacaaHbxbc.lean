/- Walks: slices.Index at numbers, simple. -/
import Derived.Test.YtlbihfbeamlacaaHbxbb
import Derived.Test.YtlbihfbeamlacaaHbxas
import Derived.Test.YtlbihfbeamlacaaHbxao
set_option linter.unusedSimpArgs false
set_option linter.unusedVariables false
set_option maxRecDepth 100000
set_option maxHeartbeats 6400000
namespace Go.Proofs.Ytlbihfbeamlacaa
open Go.RowKit
theorem slices_Index (s : Sl Int) (x : Int) (w : World) (hr : Rd (· < w.heap.size) 1 ienc w s) :
    Calls Try.prog 53 #[.slice s.A s.l.length s.c,.int .i64 x] w fun e w'=>e = .returned (.int .i64 (idxP (fun y=>decide (y=x)) 0 s.l))∧Below w.heap.size w w':=by
  obtain ⟨A,c,l⟩:=s
  have hl:=hr.len
  simp only at hl
  have HR:=Lib.hid hr
  clear hr
  simp only
  obtain ⟨V,hV⟩ : ∃ V,idxP (fun y=>decide (y=x)) 0 l=V:=⟨_,rfl⟩
  rw [hV]
  have HV:=Lib.hid hV
  clear hV
  go_enter Try.func53,Try.ntmps53
  go_wp2_with fail
  go_loopw [8] (fun v wr=>∃ (k : Nat),k≤l.length∧v = .int .i64 k∧Hid (idxP (fun y=>decide (y=x)) k (l.drop k)=V)∧Below w.heap.size w wr) (fun v _=>l.length - (intOf v).toNat)
  case atStart=>exact ⟨0,by omega,rfl,HV,Below.refl _ _⟩
  case round =>
    clear HV
    obtain ⟨k,hk,rfl,HP,hbel⟩:=hrel
    by_cases hkl : k<l.length
    · obtain ⟨b,o,hA,_,hcl⟩:=(HR.out.later hbel (Nat.le_refl _)).at1 hkl
      simp only at hA hcl
      subst hA
      have c0:=hcl.c1
      rw [Nat.mul_one] at c0
      have HP2:=HP.out
      rw [List.drop_eq_getElem_cons hkl] at HP2
      unfold idxP at HP2
      replace HP2:=Lib.hid HP2
      clear HP hcl
      generalize l[k]=y at *
      by_cases hx : y=x
      · subst hx
        have HQ : Hid ((k : Int)=V):=Lib.hid (by have h:=HP2.out; rw [if_pos (by simp)] at h; exact h)
        obtain rfl:=HQ.out
        clear HP2 HQ
        go_wp2_with fail
        go_ret
        exact ⟨rfl,hbel⟩
      · have HN : Hid (idxP (fun y=>decide (y=x)) (k+1) (l.drop (k+1))=V):=Lib.hid (by have h:=HP2.out; rw [if_neg (by simpa using hx)] at h; exact h)
        have hxb : (x == y)=false:=by simpa using fun e=>hx e.symm
        clear HP2
        go_wp2_with fail
        go_roundw
        case rel=>exact ⟨k+1,by omega,by go_num,HN,hbel⟩
        case measure=>simp [intOf]; omega
    · have HQ : Hid (-1=V):=Lib.hid (by
        have h:=HP.out
        rw [List.drop_eq_nil_of_le (by omega)] at h
        exact h)
      obtain rfl:=HQ.out
      clear HP HQ
      go_wp2_with fail
      go_ret
      exact ⟨rfl,hbel⟩
/-- The first place of a number: what lies before it is what 'takeWhile' keeps. -/
theorem idx_while {x : Int} : ∀ (l : List Int) (k : Nat),(idxP (fun y=>decide (y=x)) k l = -1∧l.takeWhile (fun y=>!decide (y=x))=l)∨∃ j : Nat,idxP (fun y=>decide (y=x)) k l=((k+j : Nat) : Int)∧j<l.length∧l.takeWhile (fun y=>!decide (y=x))=l.take j
  | [],_=>.inl ⟨rfl,rfl⟩
  | y :: l,k=>by
    unfold idxP
    by_cases h : y=x
    · rw [if_pos (by simpa using h)]
      exact .inr ⟨0,rfl,by simp,by simp [h]⟩
    · rw [if_neg (by simpa using h)]
      rcases idx_while (x:=x) l (k+1) with ⟨h1,h2⟩ | ⟨j,h1,h2,h3⟩
      · exact .inl ⟨h1,by simp [h,h2]⟩
      · exact .inr ⟨j+1,by rw [h1]; congr 1; omega,by simpa using h2,by simp [h,h3]⟩
theorem smpS_len (out : List Int) (v : Int) : (smpS out v).length≤out.length+1:=by
  unfold smpS
  rw [List.length_append]
  have : (out.takeWhile (fun x=>!decide (x=v))).length≤out.length:=(List.takeWhile_prefix _).length_le
  simp only [List.length_cons,List.length_nil]
  omega
theorem smpF_len : ∀ (l out : List Int),(l.foldl smpS out).length≤out.length+l.length
  | [],out=>by simp
  | v :: l,out=>by
    have h1:=smpF_len l (smpS out v)
    have h2:=smpS_len out v
    simp only [List.foldl_cons,List.length_cons]
    omega
theorem hier_simple (s : Sl Int) (w : World) (hr : Rd (· < w.heap.size) 1 ienc w s) (hlen : s.l.length≤100000) :
    Calls Try.prog 42 #[.slice s.A s.l.length s.c] w fun r w'=>∃ (A : Option Addr) (c : Nat),r = .returned (.slice A (smpL s.l).length c)∧Own w.heap.size 3 1 ienc w' ⟨A,c,smpL s.l⟩∧Below w.heap.size w w':=by
  obtain ⟨B,d,l⟩:=s
  have HR:=Lib.hid hr
  clear hr
  simp only at hlen ⊢
  go_enter Try.func42,Try.ntmps42
  go_wp2_with fail
  go_loopw [3,9] (fun u i wr=>∃ (k : Nat) (A : Option Addr) (c : Nat) (out : List Int),k≤l.length∧i = .int .i64 k∧u = .slice A out.length c∧Hid ((l.take k).foldl smpS []=out)∧Hid (Own w.heap.size 3 1 ienc wr ⟨A,c,out⟩)∧Hid (Below w.heap.size w wr)) (fun _ i _=>l.length - (intOf i).toNat)
  case atStart=>exact ⟨0,none,0,[],by omega,rfl,rfl,Lib.hid rfl,Lib.hid (Own.nil _ _ _ _ _),Lib.hid (Below.refl _ _)⟩
  case round =>
    obtain ⟨k,A,c,out,hk,rfl,rfl,HF,HO,HW⟩:=hrel
    by_cases hlt : k<l.length
    · have hlt' : (k : Int)<(l.length : Int):=by omega
      obtain ⟨b,o,hA,hb,hcl⟩:=(HR.out.later HW.out (Nat.le_refl _)).at1 hlt
      simp only at hA hcl
      subst hA
      have g0:=hcl.c1
      rw [Nat.mul_one] at g0
      have HTK : Hid (∀ x,l[k]? = some x→(l.take (k+1)).foldl smpS []=smpS out x):=Lib.hid (fun x hx=>by
        rw [List.take_add_one,hx,List.foldl_append,HF.out]; rfl)
      have HX:=Lib.hid (List.getElem?_eq_getElem hlt)
      have hol : out.length≤100000:=by
        have h:=smpF_len (l.take k) []
        rw [HF.out,List.length_take] at h
        simp only [List.length_nil] at h
        omega
      clear hcl hb HF
      generalize l[k]=x at *
      replace HTK:=Lib.hid (HTK.out x HX.out)
      go_wp2_with fail
      refine (slices_Index ⟨A,c,out⟩ x wr ((Own.rd ienc_k HO.out).mono fun b hb=>hb.2)).mono ?_
      simp only
      rintro r w1 ⟨rfl,hb1⟩
      have HO1:=Lib.hid (HO.out.below hb1)
      have HW1:=Lib.hid (HW.out.trans (hb1.mono HW.out.size))
      clear hb1 HO HW
      have hbs : w.heap.size≤w1.heap.size:=HW1.out.size
      rcases idx_while (x:=x) out 0 with ⟨h1,h2⟩ | ⟨j,h1,h2,h3⟩
      · rw [h1]
        have HQ : Hid (smpS out x=out ++ [x]):=Lib.hid (by unfold smpS; rw [h2])
        clear h1 h2
        go_wp2_with (at_builtin; apply Hid.out)
        refine Lib.hid ?_
        have hal : Below w1.heap.size w1 (w1.alloc (.cells #[.int .i64 x] 3)):=(Below.refl _ _).alloc (Nat.le_refl _) _
        have HG2 : Hid (Blk (w1.alloc (.cells #[.int .i64 x] 3)) w1.heap.size 3 #[.int .i64 x]):=Lib.hid (Blk.new _ _ _)
        have HO2:=Lib.hid (HO1.out.below hal)
        have HW2:=Lib.hid (HW1.out.trans (hal.mono HW1.out.size))
        have hs2 : w.heap.size≤(w1.alloc (.cells #[.int .i64 x] 3)).heap.size:=HW2.out.size
        clear hal HO1 HW1
        generalize w1.alloc (.cells #[.int .i64 x] 3)=w2 at *
        refine wpl_append_sl _ rfl (.tmp 21) (.tmp 23) _ rfl Try.underlying23 infoInt (by omega) ienc_k ienc_one ⟨A,c,out⟩ ⟨some ⟨w1.heap.size,0,none⟩,1,[x]⟩ (by first | rfl | (simp only [htl]; rfl)) rfl HO2.out (rd_int1 HG2.out) (by simp [maxLen]; omega) (by simp; omega) hs2 ?_
        intro A2 c2 w3 hown hg _
        simp only at hown hg
        have HO3:=Lib.hid hown
        have HW3:=Lib.hid (HW2.out.trans (below_of_grown hg HW2.out.size (fun q hq=>(own_row HO2.out q hq).2.1)))
        clear hown hg HO2 HW2 HG2 hs2
        go_wp2_with fail
        go_roundw
        case rel=>exact ⟨k+1,A2,c2,out ++ [x],by omega,by go_num,by simp [*],Lib.hid (HTK.out.trans HQ.out),HO3,HW3⟩
        case measure=>simp [intOf]; omega
      · rw [h1,Nat.zero_add]
        have HQ : Hid (smpS out x=out.take j ++ [x]):=Lib.hid (by unfold smpS; rw [h3])
        clear h1 h3
        obtain ⟨g,rfl⟩ : ∃ g,A=some ⟨g,0,none⟩:=by
          rcases HO1.out.form with ⟨_,_,h0⟩ | ⟨g,h0,_⟩
          · simp only at h0; rw [h0] at h2; exact absurd h2 (Nat.not_lt_zero _)
          · exact ⟨g,h0⟩
        have hcc : out.length≤c∧c≤maxLen:=by
          obtain ⟨cur,_,_,_,h5,h6,h7⟩:=HO1.out.blk rfl
          exact ⟨h5,h6⟩
        have HOT:=Lib.hid (own_take HO1.out j)
        clear HO1
        have HO1:=HOT
        clear HOT
        have hjl : (j : Int)≤(c : Int):=by omega
        have htl : (out.take j).length=j:=by rw [List.length_take]; omega
        unfold maxLen at hcc
        go_wp2_with (at_builtin; apply Hid.out)
        clear hcc
        refine Lib.hid ?_
        have hal : Below w1.heap.size w1 (w1.alloc (.cells #[.int .i64 x] 3)):=(Below.refl _ _).alloc (Nat.le_refl _) _
        have HG2 : Hid (Blk (w1.alloc (.cells #[.int .i64 x] 3)) w1.heap.size 3 #[.int .i64 x]):=Lib.hid (Blk.new _ _ _)
        have HO2:=Lib.hid (HO1.out.below hal)
        have HW2:=Lib.hid (HW1.out.trans (hal.mono HW1.out.size))
        have hs2 : w.heap.size≤(w1.alloc (.cells #[.int .i64 x] 3)).heap.size:=HW2.out.size
        clear hal HO1 HW1
        generalize w1.alloc (.cells #[.int .i64 x] 3)=w2 at *
        refine wpl_append_sl _ rfl (.tmp 21) (.tmp 23) _ rfl Try.underlying23 infoInt (by omega) ienc_k ienc_one ⟨some ⟨g,0,none⟩,c,out.take j⟩ ⟨some ⟨w1.heap.size,0,none⟩,1,[x]⟩ (by first | rfl | (simp only [htl]; rfl)) rfl HO2.out (rd_int1 HG2.out) (by simp [maxLen]; omega) (by simp; omega) hs2 ?_
        intro A2 c2 w3 hown hg _
        simp only at hown hg
        have HO3:=Lib.hid hown
        have HW3:=Lib.hid (HW2.out.trans (below_of_grown hg HW2.out.size (fun q hq=>(own_row HO2.out q hq).2.1)))
        clear hown hg HO2 HW2 HG2 hs2
        go_wp2_with fail
        go_roundw
        case rel=>exact ⟨k+1,A2,c2,out.take j ++ [x],by omega,by go_num,by simp [*],Lib.hid (HTK.out.trans HQ.out),HO3,HW3⟩
        case measure=>simp [intOf]; omega
    · have hkl : k=l.length:=by omega
      subst hkl
      have hlt' : ¬ (l.length : Int)<(l.length : Int):=by omega
      have HQ : Hid (smpL l=out):=Lib.hid (by
        have h:=HF.out
        rw [List.take_of_length_le (Nat.le_refl _)] at h
        exact h)
      obtain rfl:=HQ.out
      clear HQ HF
      go_wp2_with fail
      go_ret
      exact ⟨A,c,rfl,HO.out,HW.out⟩
end Go.Proofs.Ytlbihfbeamlacaa
