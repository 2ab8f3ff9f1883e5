/- Walks of tonneauref31.Node at numbers, things and names. -/
import Derived.Test.YtcgocdhhneckhaaGreatFtelmxbr
import Derived.Test.YtcgocdhhneckhaaGreatFtelmxas
set_option maxRecDepth 100000
set_option maxHeartbeats 6400000
namespace Go.Proofs.YtcgocdhhneckhaaGreat
open Go.RowKit
def NdP (k : Nat) (w w' : World) (x : Int × Int) (e : Ending) : Prop :=
  (∃ p : Sl Int,e = .returned (.agg #[.int .i64 x.1,.slice p.A p.l.length p.c,.int .i64 x.2])∧Rd (· < w'.heap.size) 1 ienc w' p∧p.l.length≤k)∧Below w.heap.size w w'
theorem NdP.leaf {k : Nat} {w w' : World} {x : Int × Int} {u en : Int} (h : x=(u,en)) (hb : Below w.heap.size w w') : NdP k w w' x (.returned (.agg #[.int .i64 u,.slice none 0 0,.int .i64 en])) :=
 ⟨⟨⟨none,0,[]⟩,by rw [h]; rfl,Rd.nil _ _ _ _,Nat.zero_le _⟩,hb⟩
theorem nd_num (L : List LT) (N : Sl ByteArray) (U : Sl Int) (k : Nat) (n u : Int) (s : ByteArray) (A : Option Addr) (c : Nat) (l : List PT) (w : World) : Calls Tryz.prog 72 #[.slice N.A N.l.length N.c,.slice U.A U.l.length U.c,PT.v ⟨0,n,u,s,A,c,l⟩] w fun e w'=>NdP (k+1) w w' (unU L U.l (k+1) ⟨0,n,u,s,A,c,l⟩) e:=by
 have HV : Hid (unU L U.l (k+1) ⟨0,n,u,s,A,c,l⟩=(u,0)):=Zh (by unfold unU; rw [if_pos rfl]);generalize unU L U.l (k+1) ⟨0,n,u,s,A,c,l⟩=V at *;simp only [PT.v];go_enter Tryz.func72,Tryz.ntmps72;go_wp2_with fail;refine bodyPost_ret (v:=.agg #[.int .i64 u,.slice none 0 0,.int .i64 0]) ?_ rfl (NdP.leaf HV.out qbl);simp [results,Tryz.results72,go_sem,Nat.lt_irrefl]
theorem nd_trip (L : List LT) (N : Sl ByteArray) (U : Sl Int) (k : Nat) (n u : Int) (s : ByteArray) (A : Option Addr) (c : Nat) (l : List PT) (w : World) : Calls Tryz.prog 72 #[.slice N.A N.l.length N.c,.slice U.A U.l.length U.c,PT.v ⟨2,n,u,s,A,c,l⟩] w fun e w'=>NdP (k+1) w w' (unU L U.l (k+1) ⟨2,n,u,s,A,c,l⟩) e:=by
 have HV0 : Hid (unU L U.l (k+1) ⟨2,n,u,s,A,c,l⟩=knU (triU s)):=Zh (by unfold unU; simp);generalize unU L U.l (k+1) ⟨2,n,u,s,A,c,l⟩=V at *;simp only [PT.v];have HT:=Zh (fun w2=>r31_Trip s w2);have HM:=Zh (fun w2=>r31_Member s w2);have HB0 : Hid (Below w.heap.size w ((w.alloc (.cells #[.int .i64 2,.int .i64 n,.int .i64 u,.string s,.slice A l.length c] 25)).alloc (.cells #[.int .i64 0,.slice none 0 0,.int .i64 0] 115))):=Zh qbl;have HX0 : Hid (Blk ((w.alloc (.cells #[.int .i64 2,.int .i64 n,.int .i64 u,.string s,.slice A l.length c] 25)).alloc (.cells #[.int .i64 0,.slice none 0 0,.int .i64 0] 115)) w.heap.size 25 #[.int .i64 2,.int .i64 n,.int .i64 u,.string s,.slice A l.length c]):=Zh ((Blk.new w _ _).alloc _);have HY0 : Hid (Blk ((w.alloc (.cells #[.int .i64 2,.int .i64 n,.int .i64 u,.string s,.slice A l.length c] 25)).alloc (.cells #[.int .i64 0,.slice none 0 0,.int .i64 0] 115)) (w.heap.size+1) 115 #[.int .i64 0,.slice none 0 0,.int .i64 0]):=Zh (Blk.new' Zs);go_enter Tryz.func72,Tryz.ntmps72;go_wp2_with fail;generalize ((w.alloc (.cells #[.int .i64 2,.int .i64 n,.int .i64 u,.string s,.slice A l.length c] 25)).alloc (.cells #[.int .i64 0,.slice none 0 0,.int .i64 0] 115))=w1 at *;refine (HT.out _).mono ?_;rintro e w2 ⟨rfl,hb⟩;have HB2:=Zt HB0 hb;obtain ⟨x0,x1,x2,x3,x4,xf,xz⟩:=(HX0.out.later hb).b5;obtain ⟨y0,y1,y2,yf,yz⟩:=(HY0.out.later hb).b3;clear hb HX0 HY0 HB0;obtain ⟨t,ht⟩ : ∃ t,triU s=t:=⟨_,rfl⟩;rw [ht] at HV0 ⊢;clear ht HT;rcases t with _ | v
 ·have HV : Hid (V=(0,14)):=Zh HV0.out;clear HV0 HM;simp only [optV,Option.getD,Option.isSome];go_wp2_with fail;refine bodyPost_ret (v:=.agg #[.int .i64 0,.slice none 0 0,.int .i64 14]) ?_ rfl (NdP.leaf HV.out (HB2.out.trans qbl));simp [results,Tryz.results72,go_sem,y0,y1,y2,yf,yz]
 ·have HV : Hid (V=(v,0)):=Zh HV0.out;clear HV0 HM;simp only [optV,Option.getD,Option.isSome];go_wp2_with fail;refine bodyPost_ret (v:=.agg #[.int .i64 v,.slice none 0 0,.int .i64 0]) ?_ rfl (NdP.leaf HV.out (HB2.out.trans qbl));simp [results,Tryz.results72,go_sem,y0,y1,y2,yf,yz]
theorem nd_mem (L : List LT) (N : Sl ByteArray) (U : Sl Int) (k : Nat) (n u : Int) (s : ByteArray) (A : Option Addr) (c : Nat) (l : List PT) (w : World) : Calls Tryz.prog 72 #[.slice N.A N.l.length N.c,.slice U.A U.l.length U.c,PT.v ⟨3,n,u,s,A,c,l⟩] w fun e w'=>NdP (k+1) w w' (unU L U.l (k+1) ⟨3,n,u,s,A,c,l⟩) e:=by
 have HV0 : Hid (unU L U.l (k+1) ⟨3,n,u,s,A,c,l⟩=knU (memU s)):=Zh (by unfold unU; simp);generalize unU L U.l (k+1) ⟨3,n,u,s,A,c,l⟩=V at *;simp only [PT.v];have HT:=Zh (fun w2=>r31_Trip s w2);have HM:=Zh (fun w2=>r31_Member s w2);have HB0 : Hid (Below w.heap.size w ((w.alloc (.cells #[.int .i64 3,.int .i64 n,.int .i64 u,.string s,.slice A l.length c] 25)).alloc (.cells #[.int .i64 0,.slice none 0 0,.int .i64 0] 115))):=Zh qbl;have HX0 : Hid (Blk ((w.alloc (.cells #[.int .i64 3,.int .i64 n,.int .i64 u,.string s,.slice A l.length c] 25)).alloc (.cells #[.int .i64 0,.slice none 0 0,.int .i64 0] 115)) w.heap.size 25 #[.int .i64 3,.int .i64 n,.int .i64 u,.string s,.slice A l.length c]):=Zh ((Blk.new w _ _).alloc _);have HY0 : Hid (Blk ((w.alloc (.cells #[.int .i64 3,.int .i64 n,.int .i64 u,.string s,.slice A l.length c] 25)).alloc (.cells #[.int .i64 0,.slice none 0 0,.int .i64 0] 115)) (w.heap.size+1) 115 #[.int .i64 0,.slice none 0 0,.int .i64 0]):=Zh (Blk.new' Zs);go_enter Tryz.func72,Tryz.ntmps72;go_wp2_with fail;generalize ((w.alloc (.cells #[.int .i64 3,.int .i64 n,.int .i64 u,.string s,.slice A l.length c] 25)).alloc (.cells #[.int .i64 0,.slice none 0 0,.int .i64 0] 115))=w1 at *;refine (HT.out _).mono ?_;rintro e w2 ⟨rfl,hb⟩;have HB2:=Zt HB0 hb;obtain ⟨x0,x1,x2,x3,x4,xf,xz⟩:=(HX0.out.later hb).b5;obtain ⟨y0,y1,y2,yf,yz⟩:=(HY0.out.later hb).b3;clear hb HX0 HY0 HB0;obtain ⟨t,ht⟩ : ∃ t,triU s=t:=⟨_,rfl⟩;rw [ht];clear ht HT;obtain ⟨tu,tb,htt⟩ : ∃ tu tb,optV t = .tuple #[.int .i64 tu,.bool tb]:=⟨_,_,rfl⟩;rw [htt];clear htt;go_wp2_with fail;refine (HM.out _).mono ?_;rintro e w3 ⟨rfl,rfl⟩;obtain ⟨t2,ht⟩ : ∃ t,memU s=t:=⟨_,rfl⟩;rw [ht] at HV0 ⊢;clear ht HM;rcases t2 with _ | v
 ·have HV : Hid (V=(0,14)):=Zh HV0.out;clear HV0;simp only [optV,Option.getD,Option.isSome];go_wp2_with fail;refine bodyPost_ret (v:=.agg #[.int .i64 0,.slice none 0 0,.int .i64 14]) ?_ rfl (NdP.leaf HV.out (HB2.out.trans qbl));simp [results,Tryz.results72,go_sem,y0,y1,y2,yf,yz]
 ·have HV : Hid (V=(v,0)):=Zh HV0.out;clear HV0;simp only [optV,Option.getD,Option.isSome];go_wp2_with fail;refine bodyPost_ret (v:=.agg #[.int .i64 v,.slice none 0 0,.int .i64 0]) ?_ rfl (NdP.leaf HV.out (HB2.out.trans qbl));simp [results,Tryz.results72,go_sem,y0,y1,y2,yf,yz]
def nameS (s : ByteArray) : List ByteArray→List Int→Int
  | x :: L,u :: U=>if (x.toList == s.toList)=true then u else nameS s L U
  | _,_=>-1
theorem nameU_S (s : ByteArray) : ∀ (L : List LT) (U : List Int),nameU s L U=nameS s (namesL L) U
 | [],_=>by simp [nameU,nameS,namesL]
 | x :: L,[]=>by simp [nameU,nameS,namesL]
 | x :: L,u :: U=>by
  have ih:=nameU_S s L U;simp only [nameU,namesL,List.map_cons,nameS];rw [ih]; rfl
theorem nameS_hit {s : ByteArray} {nl : List ByteArray} {U : List Int} {j : Nat} (h1 : j<nl.length) (h2 : j<U.length) (h : (nl[j].toList == s.toList)=true) : nameS s (nl.drop j) (U.drop j)=U[j]:=by
 rw [List.drop_eq_getElem_cons h1,List.drop_eq_getElem_cons h2];unfold nameS;rw [if_pos h]
theorem nameS_on {s : ByteArray} {nl : List ByteArray} {U : List Int} {j : Nat} (h1 : j<nl.length) (h2 : j<U.length) (h : (nl[j].toList == s.toList)=false) : nameS s (nl.drop j) (U.drop j)=nameS s (nl.drop (j+1)) (U.drop (j+1)):=by
 rw [List.drop_eq_getElem_cons h1,List.drop_eq_getElem_cons h2];(conv=>lhs; unfold nameS);rw [if_neg (by rw [h]; decide)]
theorem nameS_end {s : ByteArray} {nl : List ByteArray} {U : List Int} {j : Nat} (h1 : nl.length≤j) : nameS s (nl.drop j) (U.drop j) = -1:=by
 rw [List.drop_eq_nil_of_le h1];unfold nameS;rfl
theorem nd_name (L : List LT) (N : Sl ByteArray) (U : Sl Int) (k : Nat) (n u : Int) (s : ByteArray) (A : Option Addr) (c : Nat) (l : List PT) (w : World) (hN : Rd (· < w.heap.size) 1 senc w N) (hU : Rd (· < w.heap.size) 1 ienc w U) (hnl : N.l=namesL L) (hlen : U.l.length=L.length) (hge : ∀ x,x ∈ U.l→-1≤x) : Calls Tryz.prog 72 #[.slice N.A N.l.length N.c,.slice U.A U.l.length U.c,PT.v ⟨1,n,u,s,A,c,l⟩] w fun e w'=>NdP (k+1) w w' (unU L U.l (k+1) ⟨1,n,u,s,A,c,l⟩) e:=by
 have HV0 : Hid (unU L U.l (k+1) ⟨1,n,u,s,A,c,l⟩=if nameS s N.l U.l = -1 then (0,14) else (nameS s N.l U.l,0)):=Zh (by rw [hnl,← nameU_S]; unfold unU; simp);generalize unU L U.l (k+1) ⟨1,n,u,s,A,c,l⟩=V at *;(have hLen : N.l.length=U.l.length:=by rw [hnl,namesL,List.length_map,hlen]);have HLEN:=Zh hLen;have hn1:=hN.len;have hn2:=hU.len;have HN:=Zh hN;have HU:=Zh hU;have HGE:=Zh hge;clear hN hU hnl hlen hge hLen;obtain ⟨NA,Nc,nl⟩:=N;obtain ⟨UA,Uc,ul⟩:=U;simp only at *;simp only [PT.v];obtain ⟨T,hT⟩ : ∃ T,nameS s nl ul=T:=⟨_,rfl⟩;rw [hT] at HV0;have HT:=Zh hT;clear hT;have HB0 : Hid (Below w.heap.size w ((w.alloc (.cells #[.int .i64 1,.int .i64 n,.int .i64 u,.string s,.slice A l.length c] 25)).alloc (.cells #[.int .i64 0,.slice none 0 0,.int .i64 0] 115))):=Zh qbl;have HX0 : Hid (Blk ((w.alloc (.cells #[.int .i64 1,.int .i64 n,.int .i64 u,.string s,.slice A l.length c] 25)).alloc (.cells #[.int .i64 0,.slice none 0 0,.int .i64 0] 115)) w.heap.size 25 #[.int .i64 1,.int .i64 n,.int .i64 u,.string s,.slice A l.length c]):=Zh ((Blk.new w _ _).alloc _);have HY0 : Hid (Blk ((w.alloc (.cells #[.int .i64 1,.int .i64 n,.int .i64 u,.string s,.slice A l.length c] 25)).alloc (.cells #[.int .i64 0,.slice none 0 0,.int .i64 0] 115)) (w.heap.size+1) 115 #[.int .i64 0,.slice none 0 0,.int .i64 0]):=Zh (Blk.new' Zs);go_enter Tryz.func72,Tryz.ntmps72;go_wp2_with fail;generalize ((w.alloc (.cells #[.int .i64 1,.int .i64 n,.int .i64 u,.string s,.slice A l.length c] 25)).alloc (.cells #[.int .i64 0,.slice none 0 0,.int .i64 0] 115))=w1 at *;go_loopw [9] (fun i wr=>∃ (j : Nat),j≤nl.length∧i = .int .i64 j∧Below w1.heap.size w1 wr∧Hid (nameS s (nl.drop j) (ul.drop j)=T)) (fun i _=>nl.length - (intOf i).toNat)
 case atStart=>exact ⟨0,by omega,rfl,Below.refl _ _,HT⟩
 case round =>
  obtain ⟨j,hj,rfl,hbel,HJ⟩:=hrel;have HB2:=Zt HB0 hbel;obtain ⟨x0,x1,x2,x3,x4,xf,xz⟩:=(HX0.out.later hbel).b5;obtain ⟨y0,y1,y2,yf,yz⟩:=(HY0.out.later hbel).b3;by_cases hjl : j<nl.length
  ·(have hju : j<ul.length:=by have:=HLEN.out; omega);obtain ⟨b,o,hA,_,d0⟩:=(HN.out.later HB2.out).gets hjl;obtain ⟨b2,o2,hA2,_,d1⟩:=(HU.out.later HB2.out).geti hju;simp only at hA hA2 d0 d1;subst hA hA2;have HHIT:=Zh (fun h=>(HJ.out.symm.trans (nameS_hit (s:=s) hjl hju h)));have HON:=Zh (fun h=>((nameS_on (s:=s) hjl hju h).symm.trans HJ.out));have HUG:=Zh (HGE.out _ (List.getElem_mem hju));generalize nl[j]=y at *;generalize ul[j]=v at *;go_wp2_with fail;refine wp_region_T (fun W=>W.cell? ⟨b,o+j,none⟩=some (.string y)∧W.cell? ⟨w.heap.size,3,none⟩=some (.string s)) (fun _=>false) Zy ⟨d0,x3⟩ (fun hHeld=>?_);refine Zr 0 ?_;refine Zr 1 ?_;refine Zr 2 ?_;refine Zr 3 ?_;refine Zr 4 ?_;refine Zr 5 ?_;by_cases hy : y=s
   ·(have heq : (y.toList == s.toList)=true:=by rw [bytes_beq]; simpa using hy);(have hne : (y.toList != s.toList)=false:=by rw [bne,heq]; rfl);have HTV:=Zh (HHIT.out heq);clear hy HHIT HON HJ;refine wpAnyT_take2 (i:=6) (v:=.bool false) rfl rfl Zy Zy Zy Zy (fun _ _ _ h=>h) (Or.inl ⟨by rfl, ?_⟩) (by first | assumption | trivial) ?_
    ·(intro w hSw; (try dsimp only at hSw); go_simp) <;> (first | (with_reducible rfl) | assumption | (simp; done) | (simp [*]; done) | (simp; omega))
    simp only [qsa,qsb,qsc];refine Ze ?_;clear hHeld;by_cases hv : 0≤v
    ·have HV : Hid (V=(v,0)):=Zh (by rw [HV0.out,HTV.out,if_neg Zo]);clear HV0 HTV;go_wp2_with fail;refine bodyPost_ret (v:=.agg #[.int .i64 v,.slice none 0 0,.int .i64 0]) ?_ rfl (NdP.leaf HV.out (HB2.out.trans qbl));simp [results,Tryz.results72,go_sem,y0,y1,y2,yf,yz]
    ·have HV : Hid (V=(0,14)):=Zh (by rw [HV0.out,HTV.out,if_pos (by have:=HUG.out; omega)]);clear HV0 HTV;go_wp2_with fail;refine bodyPost_ret (v:=.agg #[.int .i64 0,.slice none 0 0,.int .i64 14]) ?_ rfl (NdP.leaf HV.out (HB2.out.trans qbl));simp [results,Tryz.results72,go_sem,y0,y1,y2,yf,yz]
   ·(have heq : (y.toList == s.toList)=false:=by rw [bytes_beq]; simpa using hy);(have hne : (y.toList != s.toList)=true:=by rw [bne,heq]; rfl);have HJ2:=Zh (HON.out heq);clear hy HHIT HON HJ;refine wpAnyT_take2 (i:=6) (v:=.bool true) rfl rfl Zy Zy Zy Zy (fun _ _ _ h=>h) (Or.inl ⟨by rfl, ?_⟩) (by first | assumption | trivial) ?_
    ·(intro w hSw; (try dsimp only at hSw); go_simp) <;> (first | (with_reducible rfl) | assumption | (simp; done) | (simp [*]; done) | (simp; omega))
    simp only [qsa,qsb,qsc];refine Ze ?_;clear hHeld;go_wp2_with fail;go_roundw
    case rel=>exact ⟨j+1,by omega,by go_num,hbel.drew,HJ2⟩
    case measure=>simp [intOf]; omega
  ·have HV : Hid (V=(0,14)):=Zh (by
    have h : T = -1:=HJ.out.symm.trans (nameS_end Zo);rw [HV0.out,if_pos h])
   clear HV0 HJ;go_wp2_with fail;refine bodyPost_ret (v:=.agg #[.int .i64 0,.slice none 0 0,.int .i64 14]) ?_ rfl (NdP.leaf HV.out (HB2.out.trans qbl));simp [results,Tryz.results72,go_sem,y0,y1,y2,yf,yz]
theorem pairU_ge (op a b : Int) (ha : 0≤a) (hb : 0≤b) : -1≤pairU op a b:=by
  unfold pairU
  repeat' split
  all_goals omega
theorem joinU_ge {o : Int} {l : List Int} (h : ∀ x,x ∈ l→0≤x) : -1≤joinU o l:=by
  unfold joinU
  split
  · split <;> omega
  · split
    · match l,h with
      | [a,b,c],h =>
        have:=h b (by simp)
        simp only
        split <;> omega
      | [],_=>simp
      | [_],_=>simp
      | [_,_],_=>simp
      | _ :: _ :: _ :: _ :: _,_=>simp
    · match l,h with
      | [a,b],h=>exact pairU_ge o a b (h a (by simp)) (h b (by simp))
      | [],_=>simp
      | [_],_=>simp
      | _ :: _ :: _ :: _,_=>simp
theorem nameU_ge (s : ByteArray) : ∀ (L : List LT) (U : List Int),(∀ x,x ∈ U→-1≤x)→-1≤nameU s L U
  | [],_,_=>by unfold nameU; omega
  | x :: L,[],_=>by unfold nameU; omega
  | x :: L,u :: U,h=>by
    unfold nameU
    split
    · exact h u (by simp)
    · exact nameU_ge s L U (fun y hy=>h y (by simp [hy]))
theorem seqU_in : ∀ a : List (Int × Int),(seqU a).2=0→∀ v,v ∈ (seqU a).1→(v,(0 : Int)) ∈ a
  | [],_,v,hv=>by simp [seqU] at hv
  | (u,e) :: r,h,v,hv=>by
    by_cases he : e=0
    · have hr : (seqU r).2=0:=by simpa [seqU,he] using h
      have hv2 : v=u∨v ∈ (seqU r).1:=by simpa [seqU,he] using hv
      rcases hv2 with rfl | hv2
      · rw [he]; exact List.mem_cons_self ..
      · exact List.mem_cons_of_mem _ (seqU_in r hr v hv2)
    · exact absurd h (by simp [seqU,he])
theorem triU_ge (s : ByteArray) : 0≤(triU s).getD 0:=by
  unfold triU
  repeat' split
  all_goals simp
theorem memU_ge (s : ByteArray) : 0≤(memU s).getD 0:=by
  unfold memU
  repeat' split
  all_goals simp
theorem unU_ge (L : List LT) (U : List Int) (hU : ∀ x,x ∈ U→-1≤x) : ∀ (k : Nat) (e : PT),okE k e=true→(unU L U k e).2=0→0≤(unU L U k e).1
  | 0,_,_,_=>by unfold unU; simp
  | k+1,⟨o,n,u,s,A,c,l⟩,hok,h2=>by
    by_cases hl : (l.length : Int)=opsN o
    · by_cases h0 : o=0
      · subst h0
        rw [← okE_num (k:=k) hl] at hok
        simp only [Bool.and_eq_true] at hok
        have h:=hok.2.1
        unfold inB at h
        simp only [Bool.and_eq_true,decide_eq_true_eq] at h
        unfold unU
        rw [if_pos rfl]
        exact h.1
      by_cases h1 : o=1
      · subst h1
        revert h2
        unfold unU
        simp only [show ¬ ((1 : Int)=0) by decide,show ¬ ((1 : Int)=2) by decide,show ¬ ((1 : Int)=3) by decide,if_false,if_true]
        have:=nameU_ge s L U hU
        split
        · simp
        · intro _; simp only; omega
      by_cases hh2 : o=2
      · subst hh2
        unfold unU
        simp only [show ¬ ((2 : Int)=0) by decide,if_false,if_true,knU]
        exact triU_ge s
      by_cases hh3 : o=3
      · subst hh3
        unfold unU
        simp only [show ¬ ((3 : Int)=0) by decide,show ¬ ((3 : Int)=2) by decide,if_false,if_true,knU]
        exact memU_ge s
      rw [← okE_rest (k:=k) hl h0 (by omega)] at hok
      simp only [Bool.and_eq_true,List.all_eq_true] at hok
      rw [unU_op h0 h1 hh2 hh3] at h2 ⊢
      by_cases hz : (seqU (l.map (unU L U k))).2≠0
      · rw [if_pos hz] at h2; exact absurd h2 hz
      · rw [if_neg hz] at h2 ⊢
        have hz : (seqU (l.map (unU L U k))).2=0:=by omega
        have hge : -1≤joinU o (seqU (l.map (unU L U k))).1:=joinU_ge (fun v hv=>by
          obtain ⟨x,hx,hxe⟩:=List.mem_map.1 (seqU_in _ hz v hv)
          have:=unU_ge L U hU k x (hok.2.2 x hx) (by rw [hxe])
          rw [hxe] at this
          exact this)
        by_cases hj : joinU o (seqU (l.map (unU L U k))).1 = -1
        · rw [if_pos hj] at h2; cases h2
        · rw [if_neg hj]; simp only; omega
    · rw [← okE_len (k:=k) hl] at hok; cases hok
end Go.Proofs.YtcgocdhhneckhaaGreat
