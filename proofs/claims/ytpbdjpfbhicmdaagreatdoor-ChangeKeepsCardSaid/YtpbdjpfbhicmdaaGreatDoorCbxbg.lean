/- Walks of the parser: whole. -/
import Derived.Test.YtpbdjpfbhicmdaaGreatDoorCbxbe
import Derived.Test.YtpbdjpfbhicmdaaGreatDoorCbxbf
import Derived.Test.YtpbdjpfbhicmdaaGreatDoorCbxav
import Derived.Recover
set_option linter.unusedSimpArgs false
set_option linter.unusedVariables false
set_option maxRecDepth 100000
set_option maxHeartbeats 6400000
namespace Go.Proofs.YtpbdjpfbhicmdaaGreatDoor
open Go.RowKit
section
variable {g : Nat} {L : Sl TK} {a : Nat} {X : Nat→Prop}
theorem p_whole (f : Nat) (s : ByteArray) (w : World) (ht : TkS L) (h : PrS g L a X w) (hf : 5 * (L.l.length - a)+3≤f) : Calls Tryz.prog 55 #[.pointer (some ⟨g,0,none⟩),.string s] w fun r w'=>PxP g L (a+1) X w w' r (wholeT f s (L.l.drop a)) (fun p=>ReadP X w' p expV r):=by
  have HM0:=Lib.hid (PfS.new h)
  have hc:=p_exp ht f 0 a _ _ (by decide) (by decide) HM0.out.ps hf
  have hlen:=ht.len
  obtain ⟨V,hV⟩ : ∃ V,wholeT f s (L.l.drop a)=V:=⟨_,rfl⟩
  rw [hV]
  unfold wholeT at hV
  obtain ⟨NV,hNV⟩ : ∃ v,pR f (.exp 0) (L.l.drop a)=v:=⟨_,rfl⟩
  rw [hNV] at hc hV
  have HNV:=Lib.hid hNV
  have HTK:=Lib.hid ht
  have HXG:=Lib.hid h.xg
  have hgw : g<w.heap.size:=h.blk.lt
  clear hNV h ht
  rcases NV with ⟨⟨ps,m⟩,l2⟩ | ⟨pp,ee⟩
  rotate_left
  · have hv : V = .stop pp ee:=hV.symm
    subst hv
    clear hV
    go_enter Tryz.func55,Tryz.ntmps55
    go_wp2_with fail
    refine hc.mono ?_
    clear hc
    rintro r w2 ⟨hg,rfl⟩
    have HG:=Lib.hid (grown_trans HM0.out.gr hg)
    clear hg
    simp only [StopV]
    go_wp2_with fail
    exact ⟨rfl,HG.out,rfl⟩
  replace hV : (if isT s l2=true then (if levL ps≤12 then PX.ok ps l2.tail else .stop (posT l2) 6) else .stop (posT l2) 12)=V:=hV
  have hlv : levL ps≤100000:=by
    have h1:=(pR_lev _ _ _ _ _ HNV.out).2
    simp only [List.length_drop] at h1
    omega
  have HV:=Lib.hid hV
  clear hV HNV
  go_enter Tryz.func55,Tryz.ntmps55
  go_wp2_with fail
  refine hc.mono ?_
  clear hc
  rintro r w2 ⟨hg,⟨b,hb,rfl,hs⟩,⟨t,ht,hat,rfl⟩⟩
  obtain ⟨x,hx⟩:=hs.get
  have hV:=HV.out
  rw [posT_at hx] at hV
  have HX:=Lib.hid hx
  replace ht : shp t=ps:=ht
  rw [← ht] at hV hlv
  have HV2:=Lib.hid hV
  have HLV:=Lib.hid hlv
  have HT:=Lib.hid ht
  have HM2:=Lib.hid (HM0.out.step hs hg)
  have HAT:=Lib.hid hat
  have HB:=Lib.hid hb
  have hng : w2.heap.size≠g:=Nat.ne_of_gt hs.blk.lt
  have hnq : w2.heap.size≠w.heap.size:=Nat.ne_of_gt HM2.out.res.lt
  clear hV HV hx hlv hs hg hat hb ht HM0
  obtain ⟨o,n,u,xs,A2,c2,l2⟩:=t
  simp only [PT.v,expV]
  go_wp2_with fail
  have hal : Below w2.heap.size w2 (w2.alloc (.cells #[.int .i64 o,.int .i64 n,.int .i64 u,.string xs,.slice A2 l2.length c2] 26)):=(Below.refl _ _).alloc (Nat.le_refl _) _
  have HM3:=Lib.hid (HM2.out.step (HM2.out.ps.later hal) (below_by hal _))
  have HAT3:=Lib.hid (HAT.out.more hal (Mor.refl _ _ _))
  have HX3 : Hid (Blk (w2.alloc (.cells #[.int .i64 o,.int .i64 n,.int .i64 u,.string xs,.slice A2 l2.length c2] 26)) w2.heap.size 26 #[.int .i64 o,.int .i64 n,.int .i64 u,.string xs,.slice A2 l2.length c2]):=Lib.hid (Blk.new _ _ _)
  clear HM2 HAT hal
  generalize w2.alloc (.cells #[.int .i64 o,.int .i64 n,.int .i64 u,.string xs,.slice A2 l2.length c2] 26)=w3 at *
  generalize w2.heap.size=q at *
  refine (p_is s w3 HM3.out.ps).mono ?_
  rintro r w4 ⟨rfl,hb4⟩
  have HM4:=Lib.hid (HM3.out.step (HM3.out.ps.later hb4) (below_by hb4 _))
  have HAT4:=Lib.hid (HAT3.out.more hb4 (Mor.refl _ _ _))
  have HX4:=Lib.hid (HX3.out.later hb4)
  clear hb4 HM3 HAT3 HX3
  obtain ⟨B,hB⟩ : ∃ B,isT s (L.l.drop b)=B:=⟨_,rfl⟩
  have hV:=HV2.out
  have HBB:=Lib.hid hB
  rw [hB] at hV ⊢
  clear hB HV2
  rcases B
  · have hv : V = .stop x.p 12:=hV.symm
    subst hv
    clear hV
    go_wp2_with fail
    refine (p_check_no HX.out 12 w4 HM4.out.ps).mono ?_
    rintro r w5 ⟨rfl,hb5⟩
    have HG5:=Lib.hid (grown_trans HM4.out.gr (below_by hb5 _))
    clear hb5
    simp only [StopV]
    go_wp2_with fail
    exact ⟨rfl,HG5.out,rfl⟩
  replace hV : (if levL (shp ⟨o,n,u,xs,A2,c2,l2⟩)≤12 then PX.ok (shp ⟨o,n,u,xs,A2,c2,l2⟩) (L.l.drop b).tail else .stop x.p 6)=V:=hV
  have HV3:=Lib.hid hV
  clear hV
  go_wp2_with fail
  refine (p_check_ok _ 12 w4).mono ?_
  rintro r w5 ⟨rfl,rfl⟩
  obtain ⟨y0,y1,y2,y3,y4,yf,yz⟩:=HX4.out.b5
  go_wp2_with fail
  refine (syn_levels (HAT4.out.mono nm_lt) w4 (Below.refl _ _) (by have:=HLV.out; omega)).mono ?_
  rintro r w7 ⟨rfl,hb7⟩
  have HM7:=Lib.hid (HM4.out.step (HM4.out.ps.later hb7) (below_by hb7 _))
  have HAT7:=Lib.hid (HAT4.out.more hb7 (Mor.refl _ _ _))
  have HX7:=Lib.hid (HX4.out.later hb7)
  clear hb7 HM4 HAT4 HX4 y0 y1 y2 y3 y4 yf yz
  by_cases h12 : levL (shp ⟨o,n,u,xs,A2,c2,l2⟩)≤12
  · have h12i : ((levL (shp ⟨o,n,u,xs,A2,c2,l2⟩) : Nat) : Int)≤12:=by omega
    have hv:=HV3.out
    rw [if_pos h12,List.tail_drop] at hv
    subst hv
    clear h12 HV3
    go_wp2_with fail
    refine (p_check_ok _ 6 w7).mono ?_
    rintro r w8 ⟨rfl,rfl⟩
    have hal : b<100000:=Nat.lt_of_lt_of_le HM7.out.ps.lt HTK.out.len
    have HLT:=Lib.hid (isT_lt HTK.out.end_ HM7.out.ps.lt HBB.out)
    obtain ⟨b0,b1,bf,bz⟩:=HM7.out.ps.blk.b2
    obtain ⟨y0,y1,y2,y3,y4,yf,yz⟩:=HX7.out.b5
    obtain ⟨r0,r1,r2,r3,r4,rf,rz⟩:=HM7.out.res.b5
    have hgq : g≠w.heap.size:=by have:=HM7.out.gq; omega
    have hwr : IntKind.i64.wrap ((b : Int)+1)=((b+1 : Nat) : Int):=by rw [IntKind.wrap_i64]; omega
    have hm:=HM7.out.ps.move HLT.out
    have HMV:=Lib.hid hm
    have HPP:=Lib.hid (show PX.ok (shp ⟨o,n,u,xs,A2,c2,l2⟩,(0 : Int)) (L.l.drop (b+1)) = .ok (shp ⟨o,n,u,xs,A2,c2,l2⟩,0) (L.l.drop (b+1)) from rfl)
    have HFN:=Lib.hid (pxp_end (lo:=a+1) (v:=expV) HPP.out HMV.out (grown_trans HM7.out.gr (grown_st1 1 _)) (Nat.le_refl _) (.inr rfl) hgq HXG.out (fun _ h=>.inl h) (by have:=HB.out; omega) (HAT7.out.grow HM7.out.ps.xg (grown_st1 1 _)) rfl)
    clear hm HMV HPP HM7 HAT7 HX7
    go_wp2_with fail
    try simp only [Exit.inBlock,Exit.then]
    refine bodyPost_ret (v:=.agg #[.int .i64 o,.int .i64 n,.int .i64 u,.string xs,.slice A2 l2.length c2]) ?_ rfl HFN.out
    simp [results,Tryz.results55,go_sem,r0,r1,r2,r3,r4,rz]
  · have h12i : decide (((levL (shp ⟨o,n,u,xs,A2,c2,l2⟩) : Nat) : Int)≤12)=false:=decide_eq_false (by omega)
    have hv:=HV3.out
    rw [if_neg h12] at hv
    subst hv
    clear h12 HV3
    go_wp2_with fail
    refine (p_check_no HX.out 6 w7 HM7.out.ps).mono ?_
    rintro r w8 ⟨rfl,hb8⟩
    have HG8:=Lib.hid (grown_trans HM7.out.gr (below_by hb8 _))
    clear hb8
    simp only [StopV]
    go_wp2_with fail
    exact ⟨rfl,HG8.out,rfl⟩
end
def rsnV (A : Option Addr) (n c : Nat) (en : Int) : Value:=.iface 125 (.agg #[.slice A n c,.int .i64 en])
theorem un_catch_idle (p q : Addr) (w : World) : CallsD Tryz.prog 97 #[.pointer (some p),.pointer (some q)] .returning w fun e u' w'=>e = .returned (.tuple #[])∧u' = .returning∧w'=w:=by
 refine callsD_of_wpS Tryz.func97 rfl fun c₀ cs hu=>?_;apply wpS_seq;apply wpS_region;simp [wpOpsS,go_sem,recoverD,hu,Tryz.ntmps97,Exit.thenS];refine wpS_of_wp ?_;generalize htm : (#[Value.pointer (some p),Value.pointer (some q)] ++ ((Array.replicate 6 undef).setIfInBounds 1 Value.nilIface).setIfInBounds 0 Value.nilIface)=tm;(have htm2 : tm = #[.pointer (some p),.pointer (some q),.nilIface,.nilIface,undef,undef,undef,undef]:=by rw [← htm]; rfl);subst htm2;clear htm;go_wp2_with fail;exact ⟨rfl,.returning,by rw [← hu],_,by simp [results,Tryz.results97,go_sem],rfl,rfl,rfl⟩
theorem un_catch (p q : Nat) (hpq : p≠q) (B : Nat) (hBp : B≤p) (hBq : B≤q) (A : Option Addr) (n c : Nat) (en : Int) (older : List PanicEntry) (w : World) (x y z : Value) (hp : Blk w p 3 #[x]) (hq : Blk w q 125 #[y,z]) : CallsD Tryz.prog 97 #[.pointer (some ⟨p,0,none⟩),.pointer (some ⟨q,0,none⟩)] (.panicking ({ v:=rsnV A n c en,recovered:=false } :: older)) w fun e u' w' =>
 e = .returned (.tuple #[])∧u' = .panicking ({ v:=rsnV A n c en,recovered:=true } :: older)∧Blk w' p 3 #[.int .i64 0]∧Blk w' q 125 #[.slice A n c,.int .i64 en]∧Below B w w':=by
 unfold rsnV
 refine callsD_of_wpS Tryz.func97 rfl fun c₀ cs hu=>?_
 apply wpS_seq
 apply wpS_region
 simp [wpOpsS,go_sem,recoverD,hu,Tryz.ntmps97,Exit.thenS]
 refine wpS_of_wp ?_
 generalize htm : (#[Value.pointer (some ⟨p,0,none⟩),Value.pointer (some ⟨q,0,none⟩)] ++ ((Array.replicate 6 undef).setIfInBounds 1 (Value.iface 125 (Value.agg #[Value.slice A n c,Value.int IntKind.i64 en]))).setIfInBounds 0 (Value.iface 125 (Value.agg #[Value.slice A n c,Value.int IntKind.i64 en])))=tm
 have htm2 : tm = #[.pointer (some ⟨p,0,none⟩),.pointer (some ⟨q,0,none⟩),(Value.iface 125 (Value.agg #[Value.slice A n c,Value.int IntKind.i64 en])),(Value.iface 125 (Value.agg #[Value.slice A n c,Value.int IntKind.i64 en])),undef,undef,undef,undef]:=by rw [← htm]; rfl
 subst htm2
 clear htm
 have HP:=Zh hp
 have HQ:=Zh hq
 obtain ⟨p0,pf,pz⟩:=hp.b1
 obtain ⟨q0,q1,qf,qz⟩:=hq.b2
 clear hp hq hu
 go_wp2_with fail
 have hta : ∀ (w : World),(Instr.typeAssert (Value.iface 125 (Value.agg #[Value.slice A n c,Value.int IntKind.i64 en])) 20 125 false).run Tryz.prog w = .ok (Value.agg #[Value.slice A n c,Value.int IntKind.i64 en]) w:=fun _=>by kernel_rfl
 refine wp_region_T (fun W=>True) (fun _=>false) Zy trivial (fun hHeld=>?_)
 refine Zr 0 ?_
 clear hHeld
 have hHeld : True:=trivial
 refine wpAnyT_take2 (i:=1) (v:=Value.agg #[Value.slice A n c,Value.int IntKind.i64 en]) rfl rfl Zy Zy Zy Zy (fun _ _ _ h=>h) (Or.inl ⟨by rfl, ?_⟩) (by first | assumption | trivial) ?_
 ·(intro w hSw; (try dsimp only at hSw); go_simp) <;> (first | (with_reducible rfl) | assumption | (simp; done) | (simp [*]; done) | (simp; omega))
 simp only [qsa,qsb,qsc]
 refine Zn 2 ?_
 go_wp2_with fail
 refine Zn 3 ?_
 go_wp2_with fail
 refine Ze ?_
 go_wp2_with fail
 refine ⟨rfl,_,rfl,_,by simp [results,Tryz.results97,go_sem],rfl,rfl, ?_, ?_, ?_⟩
 ·exact Blk.drew (by simpa using ((HP.out.set_ 0 (.int .i64 0)).far hpq (.slice A n c)).far hpq (.int .i64 en))
 ·exact Blk.drew (by simpa using ((HQ.out.far (Ne.symm hpq) (.int .i64 0)).set_ 0 (.slice A n c)).set_ 1 (.int .i64 en))
 ·exact Below.drew ((((Below.refl B w).setCell hBp _).setCell hBq _).setCell hBq _)
def UnitP (w w' : World) (x : Int × Int) (r : Ending) : Prop:=(∃ (A : Option Addr) (n c : Nat),r = .returned (.tuple #[.int .i64 (if x.2=0 then x.1 else 0),.agg #[.slice A n c,.int .i64 x.2]]))∧Below w.heap.size w w'
theorem un_unit (L : Sl LT) (U : Sl Int) (e : PT) (w : World) (hk : rexp e=true) (he : PT.At (· < w.heap.size) w e) (hL : LetsAt (· < w.heap.size) w L) (hU : Rd (· < w.heap.size) 1 ienc w U) (hlen : U.l.length=L.l.length) : Calls Tryz.prog 68 #[ScV L U,e.v] w fun r w'=>UnitP w w' (unU L.l U.l 12 e) r:=by
 have hmf : ∀ (fn : Fn) (first cap : Array Value) (w : World),(Instr.makeFunc fn first cap).run Tryz.prog w = .ok (.func fn first cap) w:=fun _ _ _ _=>rfl;have HO:=Zh (fun W (hW : Below w.heap.size w W)=>un_of L U hlen 12 e ⟨none,0,[]⟩ W hk (he.later hW) (hL.later hW) (hU.later hW) (Rd.nil _ _ _ _) Zs);obtain ⟨X,hX⟩ : ∃ X,unU L.l U.l 12 e=X:=⟨_,rfl⟩;rw [hX] at HO ⊢;clear hX he hL hU hlen hk;obtain ⟨o,n,u,s,A,c,l⟩:=e;simp only [ScV,PT.v] at HO ⊢;go_enter_defers Tryz.func68,Tryz.ntmps68;go_wp2_with fail;have HB : Hid (Below w.heap.size w ((((w.alloc (.cells #[.slice L.A L.l.length L.c,.slice U.A U.l.length U.c] 128)).alloc (.cells #[.int .i64 o,.int .i64 n,.int .i64 u,.string s,.slice A l.length c] 26)).alloc (.cells #[.int .i64 0] 3)).alloc (.cells #[.slice none 0 0,.int .i64 0] 125))):=Zh qbl;have HP : Hid (Blk ((((w.alloc (.cells #[.slice L.A L.l.length L.c,.slice U.A U.l.length U.c] 128)).alloc (.cells #[.int .i64 o,.int .i64 n,.int .i64 u,.string s,.slice A l.length c] 26)).alloc (.cells #[.int .i64 0] 3)).alloc (.cells #[.slice none 0 0,.int .i64 0] 125)) (w.heap.size+1+1) 3 #[.int .i64 0]):=Zh ((Blk.new' Zs).alloc _);have HQ : Hid (Blk ((((w.alloc (.cells #[.slice L.A L.l.length L.c,.slice U.A U.l.length U.c] 128)).alloc (.cells #[.int .i64 o,.int .i64 n,.int .i64 u,.string s,.slice A l.length c] 26)).alloc (.cells #[.int .i64 0] 3)).alloc (.cells #[.slice none 0 0,.int .i64 0] 125)) (w.heap.size+1+1+1) 125 #[.slice none 0 0,.int .i64 0]):=Zh (Blk.new' Zs);generalize (((w.alloc (.cells #[.slice L.A L.l.length L.c,.slice U.A U.l.length U.c] 128)).alloc (.cells #[.int .i64 o,.int .i64 n,.int .i64 u,.string s,.slice A l.length c] 26)).alloc (.cells #[.int .i64 0] 3)).alloc (.cells #[.slice none 0 0,.int .i64 0] 125)=w1 at *;refine (HO.out w1 HB.out).mono ?_;rintro e w2 ⟨hu,hb2⟩;have HB2:=Zt HB hb2;have HP2:=Zh (HP.out.later hb2);have HQ2:=Zh (HQ.out.later hb2);clear HP HQ HO hb2;rcases hu with ⟨hx,rfl⟩ | ⟨hx,RA,rn,rc,rfl⟩
 ·obtain ⟨p0,pf,pz⟩:=HP2.out.b1;obtain ⟨q0,q1,qf,qz⟩:=HQ2.out.b2;have HX:=Zh hx;clear hx;go_wp2_with fail;refine leaves_cons (f:=97) (args:=#[.pointer (some ⟨w.heap.size+1+1,0,none⟩),.pointer (some ⟨w.heap.size+1+1+1,0,none⟩)]) Zs (by simp [go_sem]) ?_;refine (un_catch_idle _ _ _).mono ?_;rintro e u' w3 ⟨rfl,rfl,rfl⟩;simp [Leaves,settle,results,Tryz.results68,go_sem,q0,q1,p0];exact ⟨⟨none,0,0,by rw [if_pos HX.out,HX.out]⟩,((HB2.out.setCell (by simp; omega) _).setCell (by simp; omega) _).setCell (by simp; omega) _⟩
 ·have HX:=Zh hx;clear hx;go_wp2_with fail;refine leaves_cons (f:=97) (args:=#[.pointer (some ⟨w.heap.size+1+1,0,none⟩),.pointer (some ⟨w.heap.size+1+1+1,0,none⟩)]) Zs (by simp [go_sem]) ?_;refine (un_catch (w.heap.size+1+1) (w.heap.size+1+1+1) Zo w.heap.size Zo Zo RA rn rc X.2 [] _ _ _ _ HP2.out HQ2.out).mono ?_;rintro e u' w3 ⟨rfl,rfl,hp3,hq3,hb3⟩;obtain ⟨p0,pf,pz⟩:=hp3.b1;obtain ⟨q0,q1,qf,qz⟩:=hq3.b2;have HB3:=Zh (HB2.out.trans hb3);clear hp3 hq3 hb3;simp [Leaves,settle,results,Tryz.results68,go_sem,q0,q1,p0];exact ⟨⟨RA,rn,rc,by rw [if_neg HX.out]⟩,HB3.out⟩
theorem LT.enc_k : ∀ x : LT,x.enc.length=6 | ⟨_,⟨_,_,_,_,_,_,_⟩⟩=>rfl
theorem LT.enc_one : ∀ x : LT,∀ u ∈ x.enc,u.oneCell'=true
 | ⟨nm,⟨o,n,u,s,A,c,l⟩⟩,v,hv=>by
  simp only [LT.enc,PT.enc,List.mem_cons,List.not_mem_nil,or_false] at hv;rcases hv with rfl | rfl | rfl | rfl | rfl | rfl <;> rfl
theorem infoLet : Info Tryz.prog 82 (.agg #[.string ByteArray.empty,.int .i64 0,.int .i64 0,.int .i64 0,.string ByteArray.empty,.slice none 0 0]) 6 80:=info_mk Zy rfl
def uo (x : Int × Int) : Int:=if x.2=0 then x.1 else -1
def scN (L : List LT) : Nat→List Int
  | 0=>[]
  | k+1=>match L[k]? with
    | some x=>scN L k ++ [uo (unU (L.take k) (scN L k) 12 x.b)]
    | none=>scN L k
def scU (L : List LT) : List Int:=scN L L.length
theorem scN_succ {L : List LT} {k : Nat} {x : LT} (h : L[k]? = some x) : scN L (k+1)=scN L k ++ [uo (unU (L.take k) (scN L k) 12 x.b)]:=by
 (conv=>lhs; unfold scN);rw [h]
theorem scN_len (L : List LT) : ∀ k,k≤L.length→(scN L k).length=k
 | 0,_=>rfl
 | k+1,h=>by
  rw [scN_succ (List.getElem?_eq_getElem Zo),List.length_append,scN_len L k Zo];rfl
theorem rd_one6 {W : World} {g : Nat} {t : TypeId} {x : LT} (h : Blk W g t x.enc.toArray) : Rd (· < W.heap.size) 6 LT.enc W ⟨some ⟨g,0,none⟩,1,[x]⟩ :=
 ⟨Nat.le_refl _,by unfold maxLen; simp,fun h=>by simp at h,fun i y hy=>by
  have hi : i=0:=by
   rcases i with _ | i
   ·rfl
   ·simp at hy
  subst hi;(have hxy : x=y:=by simpa using hy);subst hxy
  exact ⟨g,0,rfl,h.lt,fun j u hu=>by
   rw [Nat.zero_mul,Nat.add_zero,Nat.zero_add,h.cell];simpa using hu⟩⟩
theorem own_apart {α β : Type} {B : Nat} {e e' : TypeId} {k k' : Nat} {enc : α→List Value} {enc' : β→List Value} {w : World} {s : Sl α} {s' : Sl β} (h : Own B e k enc w s) (h' : Own B e' k' enc' w s') (hne : e≠e') {g : Nat} (hg : s.A=some ⟨g,0,none⟩) : (Value.slice s'.A s'.l.length s'.c).ownBlock≠some g:=by
 intro hc;unfold Own at h h';rcases h.2 with ⟨hv,_⟩ | ⟨g1,cap,cur,hv,hb,hh,_⟩
 ·injection hv with h1; rw [hg] at h1; cases h1
 rcases h'.2 with ⟨hv',_⟩ | ⟨g2,cap',cur',hv',hb',hh',_⟩
 ·injection hv' with h1; rw [h1] at hc; simp [Value.ownBlock] at hc
 injection hv with h1; rw [hg] at h1; injection h1 with h1; injection h1 with h1;injection hv' with h2; rw [h2] at hc; simp only [Value.ownBlock] at hc; injection hc with hc;rw [← h1] at hh; rw [hc,hh] at hh';injection hh' with hh'; injection hh' with _ h3;exact hne h3
structure ScS (B : Nat) (w : World) (g0 g gl : Nat) (cs : Array Value) (x : LT) (ls : Sl LT) (us : Sl Int) (W : World) : Prop where
  own : Own B 82 6 LT.enc W ls
  ous : Own B 3 1 ienc W us
  b0 : Blk W g0 128 #[.slice none 0 0,.slice none 0 0]
  b1 : Blk W g 128 cs
  bx : Blk W gl 82 x.enc.toArray
  ap : ∀ h,ls.A=some ⟨h,0,none⟩→h≠gl
  lo : g0<B∧g<B
  ge : w.heap.size≤g0∧w.heap.size≤g∧B≤W.heap.size
  bel : Below w.heap.size w W
section
variable {B : Nat} {w : World} {g0 g gl : Nat} {cs : Array Value} {x : LT} {ls : Sl LT} {us : Sl Int} {W W' : World}
theorem ScS.drew (h : ScS B w g0 g gl cs x ls us W) : ScS B w g0 g gl cs x ls us W.drew:=⟨h.own,h.ous,h.b0,h.b1,h.bx,h.ap,h.lo,h.ge,h.bel.drew⟩
theorem ScS.alloc (h : ScS B w g0 g gl cs x ls us W) (o : Obj) : ScS B w g0 g gl cs x ls us (W.alloc o) :=
 ⟨h.own.alloc o,h.ous.alloc o,h.b0.alloc o,h.b1.alloc o,h.bx.alloc o,h.ap,h.lo,⟨h.ge.1,h.ge.2.1,by have:=h.ge.2.2; simp; omega⟩,h.bel.alloc (Nat.le_trans h.ge.1 (by have:=h.ge.2.2; have:=h.lo.1; omega)) o⟩
theorem ScS.cells (h : ScS B w g0 g gl #[.slice ls.A ls.l.length ls.c,.slice us.A us.l.length us.c] x ls us W) : True:=trivial
theorem own_addr {α : Type} {e : TypeId} {k : Nat} {enc : α→List Value} {s : Sl α} (h : Own B e k enc W s) : ∀ n,(Value.slice s.A s.l.length s.c).ownBlock=some n→s.A=some ⟨n,0,none⟩:=by
 intro n hn;rcases h.form with ⟨hA,_⟩ | ⟨g',hA,h1,h2,_⟩
 ·rw [hA] at hn; simp [Value.ownBlock] at hn
 ·rw [hA] at hn ⊢; simp only [Value.ownBlock] at hn; injection hn with hn; rw [hn]
theorem ScS.letApp (h : ScS B w g0 g gl cs x ls us W) {A : Option Addr} {c : Nat} (ho : Own B 82 6 LT.enc W' ⟨A,c,ls.l ++ [x]⟩) (hg : W.grownBy W' (Value.slice ls.A ls.l.length ls.c).ownBlock) (hA : A=ls.A∨A=some ⟨W.heap.size,0,none⟩) : ScS B w g0 g gl cs x ⟨A,c,ls.l ++ [x]⟩ us W':=by
 have hge:=own_row_ge h.own;have hge0:=h.ge;have hlo:=h.lo;(have hne : ∀ n,n<B→some n≠(Value.slice ls.A ls.l.length ls.c).ownBlock:=fun n hn hc=>by have:=hge n hc.symm; omega);refine ⟨ho, ?_,h.b0.grown hg (hne _ h.lo.1),h.b1.grown hg (hne _ h.lo.2),h.bx.grown hg (fun hc=>h.ap _ (own_addr h.own _ hc.symm) rfl), ?_,h.lo,⟨h.ge.1,h.ge.2.1,Nat.le_trans h.ge.2.2 hg.size⟩,h.bel.grown hg Zo (fun k hk=>by have:=hge k hk; omega)⟩
 ·refine h.ous.kept hg ?_;rcases hr : (Value.slice ls.A ls.l.length ls.c).ownBlock with _ | n
  ·rcases hu : (Value.slice us.A us.l.length us.c).ownBlock with _ | m
   ·exact .inl rfl
   ·exact .inr Zs
  ·exact .inr (own_apart h.own h.ous (by decide) (own_addr h.own n hr))
 ·intro k hk;have hb:=h.bx.lt;rcases hA with hA | hA
  ·exact h.ap k (hA ▸ hk)
  ·rw [hA] at hk; injection hk with hk; injection hk with hk; omega
theorem ScS.unitApp (h : ScS B w g0 g gl cs x ls us W) {A : Option Addr} {c : Nat} {u : Int} (ho : Own B 3 1 ienc W' ⟨A,c,us.l ++ [u]⟩) (hg : W.grownBy W' (Value.slice us.A us.l.length us.c).ownBlock) (hA : A=us.A∨A=some ⟨W.heap.size,0,none⟩) : ScS B w g0 g gl cs x ls ⟨A,c,us.l ++ [u]⟩ W':=by
 have hge:=own_row_ge h.ous;have hge0:=h.ge;have hlo:=h.lo;(have hne : ∀ n,n<B→some n≠(Value.slice us.A us.l.length us.c).ownBlock:=fun n hn hc=>by have:=hge n hc.symm; omega);refine ⟨?_,ho,h.b0.grown hg (hne _ h.lo.1),h.b1.grown hg (hne _ h.lo.2),h.bx.grown hg (fun hc=>?_),h.ap,h.lo,⟨h.ge.1,h.ge.2.1,Nat.le_trans h.ge.2.2 hg.size⟩,h.bel.grown hg Zo (fun k hk=>by have:=hge k hk; omega)⟩
 ·refine h.own.kept hg ?_;rcases hr : (Value.slice us.A us.l.length us.c).ownBlock with _ | n
  ·rcases hu : (Value.slice ls.A ls.l.length ls.c).ownBlock with _ | m
   ·exact .inl rfl
   ·exact .inr Zs
  ·exact .inr (own_apart h.ous h.own (by decide) (own_addr h.ous n hr))
 ·have hb:=h.bx;have ho2:=h.ous;unfold Own at ho2;rcases ho2.2 with ⟨hv,_⟩ | ⟨g2,cap,cur,hv,_,hh,_⟩
  ·injection hv with h1; rw [h1] at hc; simp [Value.ownBlock] at hc
  ·injection hv with h1; rw [h1] at hc; simp only [Value.ownBlock] at hc; injection hc with hc;unfold Blk at hb;rw [hc,hh] at hb;injection hb with hb; injection hb with _ h3;exact absurd h3 (by decide)
end
structure Gr2 (w w' : World) (g h : Nat) : Prop where
  os : w'.os=w.os
  tape : w'.tape=w.tape
  output : w'.output=w.output
  size : w.heap.size≤w'.heap.size
  block : ∀ j,j<w.heap.size→j≠g→j≠h→w'.heap[j]? = w.heap[j]?
theorem Gr2.refl (w : World) (g h : Nat) : Gr2 w w g h:=⟨rfl,rfl,rfl,Nat.le_refl _,fun _ _ _ _=>rfl⟩
theorem Gr2.step {w w1 w2 : World} {g h : Nat} (a : Gr2 w w1 g h) {row : Option Nat} (b : w1.grownBy w2 row) (hr : ∀ m,row=some m→m=g∨m=h∨w.heap.size≤m) : Gr2 w w2 g h :=
  ⟨b.os.trans a.os,b.tape.trans a.tape,b.output.trans a.output,Nat.le_trans a.size b.size,fun j hj h1 h2=>(b.block j (Nat.lt_of_lt_of_le hj a.size) (fun e=>by
    rcases hr j e.symm with rfl | rfl | h3
    · exact h1 rfl
    · exact h2 rfl
    · omega)).trans (a.block j hj h1 h2)⟩
theorem Gr2.grown {w w' : World} {g h B : Nat} (a : Gr2 w w' g h) (hB : B≤w.heap.size) (hg : B≤g) (hh : B≤h) : Below B w w' :=
  (Below.refl B w).grown (row:=none) ⟨rfl,rfl,rfl,Nat.le_refl _,fun _ _ _=>rfl⟩ hB (fun k hk=>by cases hk) |>.trans ⟨a.os,a.tape,a.output,a.size,fun j hj=>a.block j (by omega) (by omega) (by omega)⟩
section
variable {g h : Nat} {L : Sl TK} {a b : Nat} {X Y : Nat→Prop} {w W W' : World}
theorem PT.At.keepNm {e : PT} {Z : Nat→Prop} (x : PT.At (Nm Y W) W e) {row : Option Nat} (hg : W.grownBy W' row) (hr : ∀ m,row=some m→Y m) (hz : ∀ i,Z i→Y i∨W.heap.size≤i) : PT.At (Nm Z W') W' e :=
  x.keep (fun c hc=>hg.block c hc.1 (fun e=>hc.2 (hr c e.symm))) (fun c hc=>⟨Nat.lt_of_lt_of_le hc.1 hg.size,fun h=>by
    rcases hz c h with h | h
    · exact hc.2 h
    · have:=hc.1; omega⟩)
theorem PrS.keepNm {Z : Nat→Prop} (x : PrS g L a Y W) {row : Option Nat} (hg : W.grownBy W' row) (hr : ∀ m,row=some m→Y m∧m≠g) (hz : ∀ i,Z i→Y i∨(W.heap.size≤i∧i<W'.heap.size)) (hY : ∀ i,Y i→Z i) : PrS g L a Z W' :=
  ⟨x.blk.grown hg (fun e=>(hr g e.symm).2 rfl),(x.rd.keep (fun c hc=>hg.block c hc.1 (fun e=>hc.2 (hr c e.symm).1))).mono (fun c hc=>⟨Nat.lt_of_lt_of_le hc.1 hg.size,fun h=>by
    rcases hz c h with h | h
    · exact hc.2 h
    · have:=hc.1; omega⟩),x.lt,hY g x.xg,fun c hc=>by
    rcases hz c hc with h | h
    · exact Nat.lt_of_lt_of_le (x.xlt c h) hg.size
    · exact h.2⟩
end
def byC (nm : ByteArray) (V : Value) : Array Value:=#[.string nm,V,.int .i64 0,.int .i64 0,.int .i64 0,.string ⟨#[]⟩,.slice none 0 0,.int .i64 0,.int .i64 0,.int .i64 0,.string ⟨#[]⟩,.slice none 0 0,.int .i64 0,.int .i64 0,.int .i64 0,.string ⟨#[]⟩,.slice none 0 0,.int .i64 0,.int .i64 0,.int .i64 0,.string ⟨#[]⟩,.slice none 0 0,.int .i64 0,.int .i64 0,.int .i64 0]
def slV {α : Type} (s : Sl α) : Value:=.slice s.A s.l.length s.c
structure LeS (g h : Nat) (L : Sl TK) (b : Nat) (X : Nat→Prop) (w : World) (nm : ByteArray) (Y : Nat→Prop) (ns : Sl ByteArray) (ls : Sl LT) (W : World) : Prop where
  ps : PrS g L b Y W
  box : Blk W h 28 (byC nm (slV ls))
  own : Own w.heap.size 9 1 senc W ns
  ols : Own w.heap.size 82 6 LT.enc W ls
  all : ∀ x,x ∈ ls.l→LT.At (Nm Y W) W x
  gr : Gr2 w W g h
  xy : ∀ i,X i→Y i
  yn : ∀ i,Y i→X i∨w.heap.size≤i
  yN : ∀ i,(slV ns).ownBlock=some i→Y i
  yL : ∀ i,(slV ls).ownBlock=some i→Y i
section
variable {g h : Nat} {L : Sl TK} {a b : Nat} {X Y : Nat→Prop} {w W W' : World} {nm : ByteArray} {ns : Sl ByteArray} {ls : Sl LT}
theorem LeS.start (hp : PrS g L a X w) (hb : Blk w h 28 (byC nm (.slice none 0 0))) : LeS g h L a X w nm X ⟨none,0,[]⟩ ⟨none,0,[]⟩ w :=
  ⟨hp,hb,Own.nil _ _ _ _ _,Own.nil _ _ _ _ _,fun x hx=>by simp at hx,Gr2.refl _ _ _,fun _ h=>h,fun _ h=>.inl h,fun i hi=>by simp [slV,Value.ownBlock] at hi,fun i hi=>by simp [slV,Value.ownBlock] at hi⟩
theorem own_ne {α : Type} {base k : Nat} {e : TypeId} {enc : α→List Value} {s : Sl α} (h : Own base e k enc W s) {m : Nat} (hm : m<base) : (slV s).ownBlock=none∨(slV s).ownBlock≠some m:=by
  rcases h.form with ⟨hA,_,_⟩ | ⟨g0,hA,hb,_⟩
  · left; unfold slV; rw [hA]; rfl
  · right; unfold slV; rw [hA]; intro hc; simp only [Value.ownBlock] at hc; injection hc with hc; omega
theorem LeS.step (s : LeS g h L a X w nm Y ns ls W) (hgw : g<w.heap.size) (hgh : g≠h) (hp : PrS g L b Y W') (hg : W.grownBy W' (some g)) : LeS g h L b X w nm Y ns ls W' :=
  ⟨hp,s.box.gm hg (Ne.symm hgh),s.own.kept hg (own_ne s.own hgw),s.ols.kept hg (own_ne s.ols hgw),fun x hx=>(s.all x hx).keep (fun c hc=>hc.kept s.ps.xg hg) (fun c hc=>hc.grow hg.size),s.gr.step hg (fun m hm=>.inl (by injection hm with hm; exact hm.symm)),s.xy,s.yn,s.yN,s.yL⟩
theorem LeS.later (s : LeS g h L a X w nm Y ns ls W) (hgw : g<w.heap.size) (hgh : g≠h) (hb : Below W.heap.size W W') : LeS g h L a X w nm Y ns ls W':=s.step hgw hgh (s.ps.later hb) (below_by hb _)
theorem LeS.move (s : LeS g h L a X w nm Y ns ls W) (hgw : g<w.heap.size) (hgh : g≠h) (hb : b<L.l.length) : LeS g h L b X w nm Y ns ls (W.setCell ⟨g,1,none⟩ (.int .i64 b)):=s.step hgw hgh (s.ps.move hb) (grown_st1 1 _)
theorem own_keepE {α β : Type} {B : Nat} {e e' : TypeId} {k k' : Nat} {enc : α→List Value} {enc' : β→List Value} {s : Sl α} {s' : Sl β} (h : Own B e k enc W s) (h' : Own B e' k' enc' W s') (hne : e≠e') (hg : W.grownBy W' (slV s).ownBlock) : Own B e' k' enc' W' s':=by
  refine h'.kept hg ?_
  rcases hr : (slV s).ownBlock with _ | n
  · exact Classical.em _
  · exact .inr (own_apart h h' hne (own_addr h n hr))
theorem str_let : 9≠82:=by decide
theorem LeS.name (s : LeS g h L a X w nm Y ns ls W) (hgw : g<w.heap.size) (hhw : h<w.heap.size) {n : ByteArray} {A : Option Addr} {c : Nat} (ho : Own w.heap.size 9 1 senc W' ⟨A,c,ns.l ++ [n]⟩) (hg : W.grownBy W' (slV ns).ownBlock) (hA : A=ns.A∨A=some ⟨W.heap.size,0,none⟩) :
    LeS g h L a X w nm (fun i=>Y i∨(slV (⟨A,c,ns.l ++ [n]⟩ : Sl ByteArray)).ownBlock=some i) ⟨A,c,ns.l ++ [n]⟩ ls W':=by
  have hnew : ∀ i,(slV (⟨A,c,ns.l ++ [n]⟩ : Sl ByteArray)).ownBlock=some i→Y i∨(W.heap.size≤i∧i<W'.heap.size):=by
    intro i hi
    have h2:=own_addr ho i hi
    have h3:=ho.bound i h2
    rcases hA with rfl | rfl
    · left
      refine s.yN i ?_
      simp only at h2
      unfold slV
      rw [h2]; rfl
    · right
      simp only at h2
      injection h2 with h2; injection h2 with h2
      omega
  refine ⟨s.ps.keepNm hg (fun m hm=>⟨s.yN m hm,fun e=>?_⟩) (fun i hi=>?_) (fun _ h=>.inl h),s.box.grown hg (fun e=>?_),ho,own_keepE s.own s.ols str_let hg,fun x hx=>?_,s.gr.step hg (fun m hm=>.inr (.inr (own_ge s.own m hm))),fun i hi=>.inl (s.xy i hi),fun i hi=>?_,fun i hi=>.inr hi,fun i hi=>.inl (s.yL i hi)⟩
  · have:=own_ge s.own m hm; omega
  · rcases hi with hi | hi
    · exact .inl hi
    · exact hnew i hi
  · have:=own_ge s.own h e.symm; omega
  · have hx:=s.all x hx
    exact ⟨hx.nm,hx.b.keepNm hg (fun m hm=>s.yN m hm) (fun i hi=>by
      rcases hi with hi | hi
      · exact .inl hi
      · rcases hnew i hi with hi | hi
        · exact .inl hi
        · exact .inr hi.1)⟩
  · rcases hi with hi | hi
    · exact s.yn i hi
    · have:=own_ge ho i hi; exact .inr this
theorem LeS.letA (s : LeS g h L a X w nm Y ns ls W) (hgw : g<w.heap.size) (hhw : h<w.heap.size) (hgh : g≠h) {x : LT} (hx : LT.At (Nm Y W) W x) {A : Option Addr} {c : Nat} (hh : Y h) (ho : Own w.heap.size 82 6 LT.enc W' ⟨A,c,ls.l ++ [x]⟩) (hg : W.grownBy W' (slV ls).ownBlock) (hA : A=ls.A∨A=some ⟨W.heap.size,0,none⟩) :
    LeS g h L a X w nm (fun i=>Y i∨(slV (⟨A,c,ls.l ++ [x]⟩ : Sl LT)).ownBlock=some i) ns ⟨A,c,ls.l ++ [x]⟩ (W'.setCell ⟨h,1,none⟩ (slV (⟨A,c,ls.l ++ [x]⟩ : Sl LT))):=by
  have hnew : ∀ i,(slV (⟨A,c,ls.l ++ [x]⟩ : Sl LT)).ownBlock=some i→Y i∨(W.heap.size≤i∧i<W'.heap.size):=by
    intro i hi
    have h2:=own_addr ho i hi
    have h3:=ho.bound i h2
    rcases hA with rfl | rfl
    · left
      refine s.yL i ?_
      simp only at h2
      unfold slV
      rw [h2]; rfl
    · right
      simp only at h2
      injection h2 with h2; injection h2 with h2
      omega
  have hps:=s.ps.keepNm (Z:=fun i=>Y i∨(slV (⟨A,c,ls.l ++ [x]⟩ : Sl LT)).ownBlock=some i) hg (fun m hm=>⟨s.yL m hm,fun e=>by have:=own_ge s.ols m hm; omega⟩) (fun i hi=>by
    rcases hi with hi | hi
    · exact .inl hi
    · exact hnew i hi) (fun _ h=>.inl h)
  have hst : W'.grownBy (W'.setCell ⟨h,1,none⟩ (slV (⟨A,c,ls.l ++ [x]⟩ : Sl LT))) (some h):=grown_st1 1 _
  have hbx:=(s.box.grown hg (fun e=>by have:=own_ge s.ols h e.symm; omega)).set_ 1 (slV (⟨A,c,ls.l ++ [x]⟩ : Sl LT))
  have hall : ∀ y,y ∈ ls.l ++ [x]→LT.At (Nm Y W) W y:=fun y hy=>by
    rcases List.mem_append.1 hy with hy | hy
    · exact s.all y hy
    · obtain rfl:=List.mem_singleton.1 hy; exact hx
  refine ⟨hps.set_ (.inl hh) hgh _,hbx,(own_keepE s.ols s.own (Ne.symm str_let) hg).far hhw _,ho.far hhw _,fun y hy=>?_,(s.gr.step hg (fun m hm=>.inr (.inr (own_ge s.ols m hm)))).step hst (fun m hm=>.inr (.inl (by injection hm with hm; exact hm.symm))),fun i hi=>.inl (s.xy i hi),fun i hi=>?_,fun i hi=>.inl (s.yN i hi),fun i hi=>.inr hi⟩
  · have hy:=hall y hy
    have h1 : PT.At (Nm (fun i=>Y i∨(slV (⟨A,c,ls.l ++ [x]⟩ : Sl LT)).ownBlock=some i) W') W' y.b:=hy.b.keepNm hg (fun m hm=>s.yL m hm) (fun i hi=>by
      rcases hi with hi | hi
      · exact .inl hi
      · rcases hnew i hi with hi | hi
        · exact .inl hi
        · exact .inr hi.1)
    exact ⟨hy.nm,h1.grow (.inl hh) hst⟩
  · rcases hi with hi | hi
    · exact s.yn i hi
    · have:=own_ge ho i hi; exact .inr this
end
end Go.Proofs.YtpbdjpfbhicmdaaGreatDoor
