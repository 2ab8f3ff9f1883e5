/- Walk of the parser's bylaws. -/
import Derived.Test.YtpbdjpfbhicmdaaGreatDoorCbxbj
import Derived.Test.YtpbdjpfbhicmdaaGreatDoorCbxbe
set_option linter.unusedSimpArgs false
set_option linter.unusedVariables false
set_option maxRecDepth 100000
set_option maxHeartbeats 6400000
namespace Go.Proofs.YtpbdjpfbhicmdaaGreatDoor
open Go.RowKit
def BylP (g : Nat) (X : Nat→Prop) (w w' : World) (r : Ending) (V : PX BS) : Prop :=
  w.grownBy w' (some g)∧match V with
  | .ok v _=>∃ b : Byl,r = .returned b.v∧Byl.At (Nm X w') w' b∧shB b=v
  | .stop p e=>r=StopV p e
def secC (h : Nat) : Array Value:=#[.string (wordN 0),.pointer (some ⟨h,2,none⟩),.string (wordN 1),.pointer (some ⟨h,7,none⟩),.string (wordN 2),.pointer (some ⟨h,12,none⟩),.string (wordN 3),.pointer (some ⟨h,17,none⟩)]
theorem secC_at {W : World} {g h : Nat} {t : TypeId} (x : Blk W g t (secC h)) {k : Nat} (hk : k<4) : W.cell? ⟨g,k * 2,none⟩=some (.string (wordN k))∧W.cell? ⟨g,k * 2+1,none⟩=some (.pointer (some ⟨h,2+5 * k,none⟩)):=by
  rcases k with _ | _ | _ | _ | k
  · exact ⟨x.cell 0,x.cell 1⟩
  · exact ⟨x.cell 2,x.cell 3⟩
  · exact ⟨x.cell 4,x.cell 5⟩
  · exact ⟨x.cell 6,x.cell 7⟩
  · omega
theorem tsE_cells {W : World} {g : Nat} {t : TypeId} {nm : ByteArray} {V : Value} {ts : List PT} {q sh ch : Int} (x : Blk W g t (tsE nm V ts q sh ch)) {k : Nat} (hk : k<4) : ∃ z0 z1 z2 z3 z4,W.cell? ⟨g,2+5 * k,none⟩=some z0∧W.cell? ⟨g,2+5 * k+1,none⟩=some z1∧W.cell? ⟨g,2+5 * k+2,none⟩=some z2∧W.cell? ⟨g,2+5 * k+3,none⟩=some z3∧W.cell? ⟨g,2+5 * k+4,none⟩=some z4:=by
  rcases k with _ | _ | _ | _ | k
  · exact ⟨_,_,_,_,_,x.cell 2,x.cell 3,x.cell 4,x.cell 5,x.cell 6⟩
  · exact ⟨_,_,_,_,_,x.cell 7,x.cell 8,x.cell 9,x.cell 10,x.cell 11⟩
  · exact ⟨_,_,_,_,_,x.cell 12,x.cell 13,x.cell 14,x.cell 15,x.cell 16⟩
  · exact ⟨_,_,_,_,_,x.cell 17,x.cell 18,x.cell 19,x.cell 20,x.cell 21⟩
  · omega
def ByLp (g : Nat) (L : Sl TK) (X : Nat→Prop) (w : World) (nm : ByteArray) (ls : Sl LT) (f : Nat) (V : PX BS) (sb k j : Nat) (W : World) : Prop :=
  ∃ (b : Nat) (ts : List PT),ByS g L b X w nm ls ts 0 0 0 W∧V=bylN f nm (ls.l.map shL) k (ts.map shp) (L.l.drop b)∧k+j=4∧ts.length=j∧Blk W sb 109 (secC (w.heap.size+1))∧w.heap.size+1<sb
theorem gr2_gr {w W W' : World} {g : Nat} (hg0 : w.grownBy W (some g)) (hl : Gr2 W W' g (w.heap.size+1)) : w.grownBy W' (some g) :=
  ⟨hl.os.trans hg0.os,hl.tape.trans hg0.tape,hl.output.trans hg0.output,Nat.le_trans hg0.size hl.size,fun j hj h1=>(hl.block j (Nat.lt_of_lt_of_le hj hg0.size) (fun e=>h1 (by rw [e])) (by omega)).trans (hg0.block j hj h1)⟩
theorem byl_v (nm : ByteArray) (ls : Sl LT) (a b c d : PT) (q sh ch : Int) : (⟨nm,ls,a,b,c,d,q,sh,ch⟩ : Byl).v = .agg (byE nm (slV ls) a b c d q sh ch):=by
  obtain ⟨o,n,u,s,A,c1,l⟩:=a
  obtain ⟨o2,n2,u2,s2,A2,c2,l2⟩:=b
  obtain ⟨o3,n3,u3,s3,A3,c3,l3⟩:=c
  obtain ⟨o4,n4,u4,s4,A4,c4,l4⟩:=d
  rfl
theorem ByS.fin {g : Nat} {L : Sl TK} {b : Nat} {X : Nat→Prop} {w W : World} {nm : ByteArray} {ls : Sl LT} {ts : List PT} {q sh ch : Int} {l : List TK} (s : ByS g L b X w nm ls ts q sh ch W) (hn : nm.size≤9223372036854775807) (hX : X g) (h4 : ts.length=4) :
    BylP g X w (W.setRow w.heap.size (tsE nm (slV ls) ts q sh ch)) (.returned (.agg (tsE nm (slV ls) ts q sh ch))) (.ok ⟨nm,ls.l.map shL,(ts.map shp).getD 0 psZ,(ts.map shp).getD 1 psZ,(ts.map shp).getD 2 psZ,(ts.map shp).getD 3 psZ,q,sh,ch⟩ l):=by
  obtain ⟨a,b,c,d,rfl⟩ : ∃ a b c d,ts=[a,b,c,d]:=by
    rcases ts with _ | ⟨a,_ | ⟨b,_ | ⟨c,_ | ⟨d,_ | ⟨e,r⟩⟩⟩⟩⟩
    · simp at h4
    · simp at h4
    · simp at h4
    · simp at h4
    · exact ⟨a,b,c,d,rfl⟩
    · simp at h4
  have hb : Below w.heap.size W (W.setRow w.heap.size (tsE nm (slV ls) [a,b,c,d] q sh ch)):=⟨rfl,rfl,rfl,by simp [World.setRow],fun k hk=>setRow_other _ _ k _ (by omega)⟩
  have hz : (W.setRow w.heap.size (tsE nm (slV ls) [a,b,c,d] q sh ch)).heap.size=W.heap.size:=by simp [World.setRow]
  have hk : ∀ i,Nm (XB X w) W i→(W.setRow w.heap.size (tsE nm (slV ls) [a,b,c,d] q sh ch)).heap[i]? = W.heap[i]?:=fun i hi=>setRow_other _ _ _ _ (fun e=>hi.2 (.inr (.inl e)))
  have hN : ∀ i,Nm (XB X w) W i→Nm X (W.setRow w.heap.size (tsE nm (slV ls) [a,b,c,d] q sh ch)) i:=fun i hi=>⟨by rw [hz]; exact hi.1,fun h=>hi.2 (.inl h)⟩
  have he : ∀ t,t ∈ [a,b,c,d]→PT.At (Nm X (W.setRow w.heap.size (tsE nm (slV ls) [a,b,c,d] q sh ch))) (W.setRow w.heap.size (tsE nm (slV ls) [a,b,c,d] q sh ch)) t:=fun t ht=>(s.all t ht).keep hk hN
  refine ⟨⟨hb.os.trans s.gr.os,hb.tape.trans s.gr.tape,hb.output.trans s.gr.output,Nat.le_trans s.gr.size hb.size,fun j hj h1=>(hb.block j hj).trans (s.gr.block j hj h1)⟩,⟨nm,ls,a,b,c,d,q,sh,ch⟩,by rw [byl_v]; rfl,⟨hn,s.lets.keep hk hN,he a (by simp),he b (by simp),he c (by simp),he d (by simp)⟩,rfl⟩
theorem p_bylaws {g : Nat} {L : Sl TK} {a : Nat} {X : Nat→Prop} (f : Nat) (w : World) (ht : TkS L) (hp : PrS g L a X w) (hf : 5 * L.l.length+3≤f) :
    Calls Tryz.prog 38 #[.pointer (some ⟨g,0,none⟩)] w fun r w'=>BylP g X w w' r (bylT f (L.l.drop a)):=by
  obtain ⟨V,hV⟩ : ∃ V,bylT f (L.l.drop a)=V:=⟨_,rfl⟩
  rw [hV]
  have HPV:=Lib.hid (hV.symm.trans (bylT_eq f _))
  have HT:=Lib.hid ht
  have HX:=Lib.hid (fun i (hi : X i)=>hp.xlt i hi)
  have HXG:=Lib.hid hp.xg
  have hgw : g<w.heap.size:=hp.blk.lt
  have HM : Hid (ByS g L a X w ⟨#[]⟩ ⟨none,0,[]⟩ [] 0 0 0 ((w.alloc (.cells #[.string ⟨#[]⟩,.slice none 0 0,.int .i64 0,.int .i64 0,.int .i64 0,.string ⟨#[]⟩,.slice none 0 0,.int .i64 0,.int .i64 0,.int .i64 0,.string ⟨#[]⟩,.slice none 0 0,.int .i64 0,.int .i64 0,.int .i64 0,.string ⟨#[]⟩,.slice none 0 0,.int .i64 0,.int .i64 0,.int .i64 0,.string ⟨#[]⟩,.slice none 0 0,.int .i64 0,.int .i64 0,.int .i64 0] 28)).alloc (.cells #[.string ⟨#[]⟩,.slice none 0 0,.int .i64 0,.int .i64 0,.int .i64 0,.string ⟨#[]⟩,.slice none 0 0,.int .i64 0,.int .i64 0,.int .i64 0,.string ⟨#[]⟩,.slice none 0 0,.int .i64 0,.int .i64 0,.int .i64 0,.string ⟨#[]⟩,.slice none 0 0,.int .i64 0,.int .i64 0,.int .i64 0,.string ⟨#[]⟩,.slice none 0 0,.int .i64 0,.int .i64 0,.int .i64 0] 28))):=Lib.hid ⟨ByS.start0 hp,(Blk.new _ _ _).alloc _,Blk.new' (by simp),⟨Rd.nil _ _ _ _,fun x hx=>by simp at hx⟩,fun t ht=>by simp at ht,below_by qbl _,hgw⟩
  clear hV ht hp
  go_enter Tryz.func38,Tryz.ntmps38
  go_wp2_with fail
  have hc:=p_want1 (⟨#[98,121,108,97,119,115]⟩ : ByteArray) _ HT.out HM.out.ps
  rw [show ((w.alloc (.cells #[.string ⟨#[]⟩,.slice none 0 0,.int .i64 0,.int .i64 0,.int .i64 0,.string ⟨#[]⟩,.slice none 0 0,.int .i64 0,.int .i64 0,.int .i64 0,.string ⟨#[]⟩,.slice none 0 0,.int .i64 0,.int .i64 0,.int .i64 0,.string ⟨#[]⟩,.slice none 0 0,.int .i64 0,.int .i64 0,.int .i64 0,.string ⟨#[]⟩,.slice none 0 0,.int .i64 0,.int .i64 0,.int .i64 0] 28)).alloc (.cells #[.string ⟨#[]⟩,.slice none 0 0,.int .i64 0,.int .i64 0,.int .i64 0,.string ⟨#[]⟩,.slice none 0 0,.int .i64 0,.int .i64 0,.int .i64 0,.string ⟨#[]⟩,.slice none 0 0,.int .i64 0,.int .i64 0,.int .i64 0,.string ⟨#[]⟩,.slice none 0 0,.int .i64 0,.int .i64 0,.int .i64 0,.string ⟨#[]⟩,.slice none 0 0,.int .i64 0,.int .i64 0,.int .i64 0] 28)).heap.size=w.heap.size+1+1 by simp] at hc
  generalize ((w.alloc (.cells #[.string ⟨#[]⟩,.slice none 0 0,.int .i64 0,.int .i64 0,.int .i64 0,.string ⟨#[]⟩,.slice none 0 0,.int .i64 0,.int .i64 0,.int .i64 0,.string ⟨#[]⟩,.slice none 0 0,.int .i64 0,.int .i64 0,.int .i64 0,.string ⟨#[]⟩,.slice none 0 0,.int .i64 0,.int .i64 0,.int .i64 0,.string ⟨#[]⟩,.slice none 0 0,.int .i64 0,.int .i64 0,.int .i64 0] 28)).alloc (.cells #[.string ⟨#[]⟩,.slice none 0 0,.int .i64 0,.int .i64 0,.int .i64 0,.string ⟨#[]⟩,.slice none 0 0,.int .i64 0,.int .i64 0,.int .i64 0,.string ⟨#[]⟩,.slice none 0 0,.int .i64 0,.int .i64 0,.int .i64 0,.string ⟨#[]⟩,.slice none 0 0,.int .i64 0,.int .i64 0,.int .i64 0,.string ⟨#[]⟩,.slice none 0 0,.int .i64 0,.int .i64 0,.int .i64 0] 28))=w1 at *
  obtain ⟨NV,hNV⟩ : ∃ v,wantT (⟨#[98,121,108,97,119,115]⟩ : ByteArray) (L.l.drop a)=v:=⟨_,rfl⟩
  have hV:=HPV.out
  rw [hNV] at hc hV
  try rw [hNV] at hsz
  clear hNV HPV
  rcases NV with ⟨v1,l1⟩ | ⟨pp,ee⟩
  rotate_left
  · skip
    have HPE:=Lib.hid (show V = .stop pp ee from hV)
    clear hV
    refine hc.mono ?_
    clear hc
    rintro r w9 ⟨hg,rfl⟩
    have HG9:=Lib.hid (grown_trans HM.out.gr hg)
    clear hg
    simp only [StopV]
    go_wp2_with fail
    exact ⟨rfl,HG9.out,by rw [HPE.out]; rfl⟩
  refine hc.mono ?_
  clear hc
  rintro r w9 ⟨hg,⟨b1,hb1,rfl,hs⟩,rfl⟩
  replace HM:=Lib.hid (HM.out.step hs hg)
  have HPV:=Lib.hid hV
  simp only [PX.bind] at HPV
  clear hV hg hs
  go_wp2_with fail
  have hc:=p_name w9 HT.out HM.out.ps
  have hsz : ∀ s l,nameT (L.l.drop b1) = .ok s l→s.size≤9223372036854775807:=fun s l h=>nameT_size HT.out HM.out.ps.lt h
  obtain ⟨NV,hNV⟩ : ∃ v,nameT (L.l.drop b1)=v:=⟨_,rfl⟩
  have hV:=HPV.out
  rw [hNV] at hc hV
  try rw [hNV] at hsz
  clear hNV HPV
  rcases NV with ⟨v1,l1⟩ | ⟨pp,ee⟩
  rotate_left
  · skip
    have HPE:=Lib.hid (show V = .stop pp ee from hV)
    clear hV
    refine hc.mono ?_
    clear hc
    rintro r w9 ⟨hg,rfl⟩
    have HG9:=Lib.hid (grown_trans HM.out.gr hg)
    clear hg
    simp only [StopV]
    go_wp2_with fail
    exact ⟨rfl,HG9.out,by rw [HPE.out]; rfl⟩
  refine hc.mono ?_
  clear hc
  rintro r w9 ⟨hg,⟨b1,hb1,rfl,hs⟩,rfl⟩
  replace HM:=Lib.hid (HM.out.step hs hg)
  have HPV:=Lib.hid hV
  simp only [PX.bind] at HPV
  clear hV hg hs
  have HNM:=Lib.hid (hsz _ _ rfl)
  clear hsz
  obtain ⟨x0,x1,xf,xz⟩ : w9.cell? ⟨w.heap.size+1,0,none⟩=some (.string ⟨#[]⟩)∧w9.cell? ⟨w.heap.size+1,1,none⟩=some (.slice none 0 0)∧(∀ o,w9.frozen? ⟨w.heap.size+1,o,none⟩=false)∧w.heap.size+1<w9.heap.size:=⟨HM.out.box.cell 0,HM.out.box.cell 1,HM.out.box.frozen,HM.out.box.lt⟩
  go_wp2_with fail
  clear x0 x1 xf xz
  replace HM:=Lib.hid (HM.out.name v1)
  have hc:=p_want1 ⟨#[59]⟩ _ HT.out HM.out.ps
  rw [show (w9.setCell ⟨w.heap.size+1,0,none⟩ (.string v1)).heap.size=w9.heap.size by simp] at hc
  have hz2 : w9.heap.size=(w9.setCell ⟨w.heap.size+1,0,none⟩ (.string v1)).heap.size:=by simp
  generalize w9.setCell ⟨w.heap.size+1,0,none⟩ (.string v1)=w2 at *
  rw [hz2] at hc ⊢
  clear hz2
  obtain ⟨nm,hnm⟩ : ∃ x,x=v1:=⟨_,rfl⟩
  subst hnm
  obtain ⟨NV,hNV⟩ : ∃ v,wantT ⟨#[59]⟩ (L.l.drop b1)=v:=⟨_,rfl⟩
  have hV:=HPV.out
  rw [hNV] at hc hV
  try rw [hNV] at hsz
  clear hNV HPV
  rcases NV with ⟨v1,l1⟩ | ⟨pp,ee⟩
  rotate_left
  · skip
    have HPE:=Lib.hid (show V = .stop pp ee from hV)
    clear hV
    refine hc.mono ?_
    clear hc
    rintro r w9 ⟨hg,rfl⟩
    have HG9:=Lib.hid (grown_trans HM.out.gr hg)
    clear hg
    simp only [StopV]
    go_wp2_with fail
    exact ⟨rfl,HG9.out,by rw [HPE.out]; rfl⟩
  refine hc.mono ?_
  clear hc
  rintro r w9 ⟨hg,⟨b1,hb1,rfl,hs⟩,rfl⟩
  replace HM:=Lib.hid (HM.out.step hs hg)
  have HPV:=Lib.hid hV
  simp only [PX.bind] at HPV
  clear hV hg hs
  go_wp2_with fail
  have hc:=p_lets f nm w9 HT.out HM.out.ps (.inr (.inr rfl)) (by omega) HM.out.box hf
  obtain ⟨NV,hNV⟩ : ∃ v,letsT f 21 [] (L.l.drop b1)=v:=⟨_,rfl⟩
  have hV:=HPV.out
  rw [hNV] at hc hV
  clear hNV HPV
  rcases NV with ⟨v2,l1⟩ | ⟨pp,ee⟩
  rotate_left
  · have HPE:=Lib.hid (show V = .stop pp ee from hV)
    clear hV
    refine hc.mono ?_
    clear hc
    rintro r w10 ⟨hl,rfl⟩
    have HG9:=Lib.hid (gr2_gr HM.out.gr hl)
    clear hl
    simp only [StopV]
    go_wp2_with fail
    exact ⟨rfl,HG9.out,by rw [HPE.out]; rfl⟩
  refine hc.mono ?_
  clear hc
  rintro r w10 ⟨hl,rfl,b2,ls,_,rfl,hps,hbx,hls,rfl⟩
  replace HM:=Lib.hid (ByS.of_lets hl HM.out.gr hgw HM.out.res.lt hps HM.out.res hbx hls)
  have HPV : Hid (V=bylN f nm (ls.l.map shL) 4 [] (L.l.drop b2)):=Lib.hid hV
  clear hV hl hps hbx hls
  have hz10 : w.heap.size+1<w10.heap.size:=HM.out.box.lt
  go_wp2_with fail
  have hal : Below w10.heap.size w10 (w10.alloc (.cells #[.string ⟨#[97,100,109,105,116]⟩,.pointer (some ⟨w.heap.size+1,2,none⟩),.string ⟨#[102,97,114,101]⟩,.pointer (some ⟨w.heap.size+1,7,none⟩),.string ⟨#[108,97,116,101]⟩,.pointer (some ⟨w.heap.size+1,12,none⟩),.string ⟨#[110,111,115,104,111,119]⟩,.pointer (some ⟨w.heap.size+1,17,none⟩)] 109)):=(Below.refl _ _).alloc (Nat.le_refl _) _
  have HS0 : Hid (Blk (w10.alloc (.cells #[.string ⟨#[97,100,109,105,116]⟩,.pointer (some ⟨w.heap.size+1,2,none⟩),.string ⟨#[102,97,114,101]⟩,.pointer (some ⟨w.heap.size+1,7,none⟩),.string ⟨#[108,97,116,101]⟩,.pointer (some ⟨w.heap.size+1,12,none⟩),.string ⟨#[110,111,115,104,111,119]⟩,.pointer (some ⟨w.heap.size+1,17,none⟩)] 109)) w10.heap.size 109 (secC (w.heap.size+1))):=Lib.hid (Blk.new _ _ _)
  replace HM:=Lib.hid (HM.out.later hal)
  clear hal
  generalize w10.alloc (.cells #[.string ⟨#[97,100,109,105,116]⟩,.pointer (some ⟨w.heap.size+1,2,none⟩),.string ⟨#[102,97,114,101]⟩,.pointer (some ⟨w.heap.size+1,7,none⟩),.string ⟨#[108,97,116,101]⟩,.pointer (some ⟨w.heap.size+1,12,none⟩),.string ⟨#[110,111,115,104,111,119]⟩,.pointer (some ⟨w.heap.size+1,17,none⟩)] 109)=w11 at *
  generalize w10.heap.size=sb at *
  go_loopg [27] 4 (fun k iv wr=>∃ (j : Nat),iv = .int .i64 j∧Hid (ByLp g L X w nm ls f V sb k j wr))
  case atStart=>exact ⟨0,rfl,Lib.hid ⟨b2,[],HM.out,HPV.out,rfl,rfl,HS0.out,hz10⟩⟩
  case round =>
    obtain ⟨j,rfl,HLP⟩:=hrel
    clear HM HPV HS0
    obtain ⟨b,ts,hs,hv,hk,hlen,hsc,hsb⟩:=HLP.out
    have HM:=Lib.hid hs
    have HPV:=Lib.hid hv
    have HSC:=Lib.hid hsc
    have HLN:=Lib.hid hlen
    have HSB:=Lib.hid hsb
    clear HLP hs hv hsc hlen hsb
    by_cases hj4 : j<4
    · obtain ⟨k',rfl⟩ : ∃ k',gk=k'+1:=⟨gk - 1,by omega⟩
      obtain ⟨s0,s1⟩:=secC_at HSC.out hj4
      obtain ⟨wj,hwj⟩ : ∃ x,wordN j=x:=⟨_,rfl⟩
      obtain ⟨o5,ho5⟩ : ∃ x,2+5 * j=x:=⟨_,rfl⟩
      rw [hwj] at s0
      rw [ho5] at s1
      have hv:=HPV.out
      rw [show bylN f nm (ls.l.map shL) (k'+1) (ts.map shp) (L.l.drop b)=(secT f (wordN (ts.map shp).length) (L.l.drop b)).bind fun e r=>bylN f nm (ls.l.map shL) k' (ts.map shp ++ [e]) r from rfl,List.length_map,HLN.out,hwj] at hv
      have HPV2:=Lib.hid hv
      have HWJ:=Lib.hid hwj
      have HO5:=Lib.hid ho5
      have HK:=Lib.hid hk
      have hj4i : (j : Int)<4:=by omega
      have hzr : w.heap.size+1<wr.heap.size:=HM.out.box.lt
      clear hv hwj ho5 hk HPV
      go_wp2_with fail
      clear s0 s1 hj4i
      have hal : Below wr.heap.size wr (wr.alloc (.cells #[.string wj,.pointer (some ⟨w.heap.size+1,o5,none⟩)] 109)):=(Below.refl _ _).alloc (Nat.le_refl _) _
      have HP0 : Hid (Blk (wr.alloc (.cells #[.string wj,.pointer (some ⟨w.heap.size+1,o5,none⟩)] 109)) wr.heap.size 109 #[.string wj,.pointer (some ⟨w.heap.size+1,o5,none⟩)]):=Lib.hid (Blk.new _ _ _)
      replace HM:=Lib.hid (HM.out.later hal)
      replace HSC:=Lib.hid (HSC.out.later hal)
      have hz1 : wr.heap.size+1=(wr.alloc (.cells #[.string wj,.pointer (some ⟨w.heap.size+1,o5,none⟩)] 109)).heap.size:=by simp
      clear hal
      generalize wr.alloc (.cells #[.string wj,.pointer (some ⟨w.heap.size+1,o5,none⟩)] 109)=w12 at *
      rw [hz1]
      have hpb : w.heap.size+1<wr.heap.size:=hzr
      clear hz1 hzr
      generalize wr.heap.size=pb at *
      have hc:=p_want1 wj w12 HT.out HM.out.ps
      obtain ⟨NV,hNV⟩ : ∃ v,secT f wj (L.l.drop b)=v:=⟨_,rfl⟩
      have HNV:=Lib.hid hNV
      have hV:=HPV2.out
      rw [hNV] at hV
      have HPV:=Lib.hid hV
      unfold secT at hNV
      obtain ⟨NW,hNW⟩ : ∃ v,wantT wj (L.l.drop b)=v:=⟨_,rfl⟩
      rw [hNW] at hc hNV
      clear hV hNW HPV2 HNV
      rcases NW with ⟨u1,l1⟩ | ⟨pp,ee⟩
      rotate_left
      · have hne : NV = .stop pp ee:=hNV.symm
        subst hne
        have HPE:=Lib.hid (show V = .stop pp ee from HPV.out)
        clear hNV HPV
        refine hc.mono ?_
        clear hc
        rintro r w13 ⟨hg,rfl⟩
        have HG9:=Lib.hid (grown_trans HM.out.gr hg)
        clear hg
        simp only [StopV]
        go_wp2_with fail
        exact ⟨rfl,HG9.out,by rw [HPE.out]; rfl⟩
      refine hc.mono ?_
      clear hc
      rintro r w13 ⟨hg,⟨b3,hb3,rfl,hps⟩,rfl⟩
      have HNV : Hid (wholeT f ⟨#[59]⟩ (L.l.drop b3)=NV):=Lib.hid hNV
      have hgp : pb≠g:=by omega
      have hgs : sb≠g:=by have:=HSB.out; omega
      replace HP0:=Lib.hid ((HP0.out.gm hg hgp).drew)
      replace HSC:=Lib.hid ((HSC.out.gm hg hgs).drew)
      replace HM:=Lib.hid ((HM.out.step hps hg).later (Below.drew (Below.refl _ _)))
      clear hg hps hNV hb3
      have hs1 : w13.drew.cell? ⟨pb,1,none⟩=some (.pointer (some ⟨w.heap.size+1,o5,none⟩)):=HP0.out.cell 1
      go_wp2_with fail
      refine wp_region_T (fun W=>W.cell? ⟨pb,1,none⟩=some (.pointer (some ⟨w.heap.size+1,o5,none⟩))) (fun i=>5≤i) (by kernel_rfl) hs1 (fun hHeld=>?_)
      refine qtq 0 ?_
      simp only [qsa,qsb,qsc]
      refine qtq 1 ?_
      simp only [qsa,qsb,qsc]
      refine qtq 2 ?_
      simp only [qsa,qsb,qsc]
      clear hHeld
      refine wpAnyT_next (i:=3) (by kernel_rfl) rfl ?_
      go_wp2_with fail
      clear hs1
      generalize w13.drew=w14 at *
      have hc:=p_whole f ⟨#[59]⟩ w14 HT.out HM.out.ps (by omega)
      rw [HNV.out] at hc
      clear HNV
      rcases NV with ⟨ps,l1⟩ | ⟨pp,ee⟩
      rotate_left
      · have HPE:=Lib.hid (show V = .stop pp ee from HPV.out)
        clear HPV
        refine hc.mono ?_
        clear hc
        rintro r w15 ⟨hg,rfl⟩
        have HG9:=Lib.hid (grown_trans HM.out.gr hg)
        clear hg
        simp only [StopV]
        go_wp2_with fail
        exact ⟨rfl,HG9.out,by rw [HPE.out]; rfl⟩
      refine hc.mono ?_
      clear hc
      rintro r w15 ⟨hg,⟨b4,hb4,rfl,hps⟩,⟨⟨eo,en,eu,es,eA,ec,el⟩,ht,hat,rfl⟩⟩
      replace HP0:=Lib.hid (HP0.out.gm hg hgp)
      replace HSC:=Lib.hid (HSC.out.gm hg hgs)
      replace HM:=Lib.hid (HM.out.step hps hg)
      have HPV2 : Hid (V=bylN f nm (ls.l.map shL) k' (ts.map shp ++ [ps]) (L.l.drop b4)):=Lib.hid HPV.out
      have HTS : Hid (shp ⟨eo,en,eu,es,eA,ec,el⟩=ps):=Lib.hid ht
      have HAT:=Lib.hid hat
      clear hg hps ht hat hb4 HPV
      simp only [PT.v,expV]
      have hs1 : w15.cell? ⟨pb,1,none⟩=some (.pointer (some ⟨w.heap.size+1,o5,none⟩)):=HP0.out.cell 1
      go_wp2_with fail
      refine And.intro (by first | exact fun _=>hs1 | exact hs1) ?_
      have hHeld:=hs1
      refine qtq 4 ?_
      simp only [qsa,qsb,qsc]
      clear hHeld hs1
      obtain ⟨z0,z1,z2,z3,z4,c0,c1,c2,c3,c4⟩:=tsE_cells HM.out.box hj4
      have hlen4 : ts.length<4:=by rw [HLN.out]; exact hj4
      have hko : 2+5 * ts.length=o5:=by rw [HLN.out]; exact HO5.out
      rw [HO5.out] at c0 c1 c2 c3 c4
      have hfz:=HM.out.box.frozen
      have hpt:=HM.out.put hlen4 HAT.out hko
      unfold set5o at hpt
      have HPT:=Lib.hid hpt
      have hsp : sb≠w.heap.size+1:=by have:=HSB.out; omega
      have HSC2 : Hid (Blk (((((w15.setCell ⟨w.heap.size+1,o5,none⟩ (.int .i64 eo)).setCell ⟨w.heap.size+1,o5+1,none⟩ (.int .i64 en)).setCell ⟨w.heap.size+1,o5+2,none⟩ (.int .i64 eu)).setCell ⟨w.heap.size+1,o5+3,none⟩ (.string es)).setCell ⟨w.heap.size+1,o5+4,none⟩ (.slice eA el.length ec)) sb 109 (secC (w.heap.size+1))):=Lib.hid (Blk.farr hsp (Blk.farr hsp (Blk.farr hsp (Blk.farr hsp (Blk.farr hsp HSC.out)))))
      clear hlen4 hko hpt hsp HSC HM
      refine wpAnyT_next (i:=5) (by kernel_rfl) rfl ?_
      go_wp2_with fail
      try simp only [QT]
      try (with_reducible refine And.intro (fun h=>by simp at h) ?_)
      refine wpAnyT_done (by kernel_rfl) ?_ _
      clear c0 c1 c2 c3 c4 hfz
      go_wp2_with fail
      go_roundg k'
      case measure=>omega
      case rel =>
        refine ⟨j+1,by go_num,Lib.hid ⟨b4,_,HPT.out, ?_, ?_, ?_,HSC2.out,HSB.out⟩⟩
        · rw [HPV2.out,← HTS.out,List.map_append]; rfl
        · have:=HK.out; omega
        · rw [List.length_append,HLN.out]; rfl
    · have hk0 : gk=0:=by omega
      subst hk0
      have hj4e : j=4:=by omega
      have hj4i : ¬ (j : Int)<4:=by omega
      have HPV2 : Hid (V=byl4 nm (ls.l.map shL) (ts.map shp) (L.l.drop b)):=Lib.hid HPV.out
      have HT4 : Hid (ts.length=4):=Lib.hid (by rw [HLN.out]; exact hj4e)
      clear hj4 hk HPV HSC
      go_wp2_with fail
      have hv:=HPV2.out
      unfold byl4 at hv
      have HPV:=Lib.hid hv
      clear hv HPV2 hj4i hj4e
      have hc:=p_part (⟨#[113,117,111,116,97]⟩ : ByteArray) 0 1000 wr HT.out HM.out.ps
      obtain ⟨NV,hNV⟩ : ∃ v,partT (⟨#[113,117,111,116,97]⟩ : ByteArray) 0 1000 (L.l.drop b)=v:=⟨_,rfl⟩
      have hV:=HPV.out
      rw [hNV] at hc hV
      try rw [hNV] at hsz
      clear hNV HPV
      rcases NV with ⟨v1,l1⟩ | ⟨pp,ee⟩
      rotate_left
      · skip
        have HPE:=Lib.hid (show V = .stop pp ee from hV)
        clear hV
        refine hc.mono ?_
        clear hc
        rintro r w9 ⟨hg,rfl⟩
        have HG9:=Lib.hid (grown_trans HM.out.gr hg)
        clear hg
        simp only [StopV]
        go_wp2_with fail
        exact ⟨rfl,HG9.out,by rw [HPE.out]; rfl⟩
      refine hc.mono ?_
      clear hc
      rintro r w9 ⟨hg,⟨b1,hb1,rfl,hs⟩,rfl⟩
      replace HM:=Lib.hid (HM.out.step hs hg)
      have HPV:=Lib.hid hV
      simp only [PX.bind] at HPV
      clear hV hg hs
      obtain ⟨qv,hqv⟩ : ∃ x,x=v1:=⟨_,rfl⟩
      subst hqv
      go_wp2_with fail
      have hc:=p_part (⟨#[115,104,97,114,101]⟩ : ByteArray) 0 1000 w9 HT.out HM.out.ps
      obtain ⟨NV,hNV⟩ : ∃ v,partT (⟨#[115,104,97,114,101]⟩ : ByteArray) 0 1000 (L.l.drop b1)=v:=⟨_,rfl⟩
      have hV:=HPV.out
      rw [hNV] at hc hV
      try rw [hNV] at hsz
      clear hNV HPV
      rcases NV with ⟨v1,l1⟩ | ⟨pp,ee⟩
      rotate_left
      · skip
        have HPE:=Lib.hid (show V = .stop pp ee from hV)
        clear hV
        refine hc.mono ?_
        clear hc
        rintro r w9 ⟨hg,rfl⟩
        have HG9:=Lib.hid (grown_trans HM.out.gr hg)
        clear hg
        simp only [StopV]
        go_wp2_with fail
        exact ⟨rfl,HG9.out,by rw [HPE.out]; rfl⟩
      refine hc.mono ?_
      clear hc
      rintro r w9 ⟨hg,⟨b1,hb1,rfl,hs⟩,rfl⟩
      replace HM:=Lib.hid (HM.out.step hs hg)
      have HPV:=Lib.hid hV
      simp only [PX.bind] at HPV
      clear hV hg hs
      obtain ⟨shv,hqv⟩ : ∃ x,x=v1:=⟨_,rfl⟩
      subst hqv
      go_wp2_with fail
      have hc:=p_part (⟨#[99,104,97,110,103,101]⟩ : ByteArray) 1 1000 w9 HT.out HM.out.ps
      obtain ⟨NV,hNV⟩ : ∃ v,partT (⟨#[99,104,97,110,103,101]⟩ : ByteArray) 1 1000 (L.l.drop b1)=v:=⟨_,rfl⟩
      have hV:=HPV.out
      rw [hNV] at hc hV
      try rw [hNV] at hsz
      clear hNV HPV
      rcases NV with ⟨v1,l1⟩ | ⟨pp,ee⟩
      rotate_left
      · skip
        have HPE:=Lib.hid (show V = .stop pp ee from hV)
        clear hV
        refine hc.mono ?_
        clear hc
        rintro r w9 ⟨hg,rfl⟩
        have HG9:=Lib.hid (grown_trans HM.out.gr hg)
        clear hg
        simp only [StopV]
        go_wp2_with fail
        exact ⟨rfl,HG9.out,by rw [HPE.out]; rfl⟩
      refine hc.mono ?_
      clear hc
      rintro r w9 ⟨hg,⟨b1,hb1,rfl,hs⟩,rfl⟩
      replace HM:=Lib.hid (HM.out.step hs hg)
      have HPV:=Lib.hid hV
      simp only [PX.bind] at HPV
      clear hV hg hs
      obtain ⟨cv,hqv⟩ : ∃ x,x=v1:=⟨_,rfl⟩
      subst hqv
      have c22:=HM.out.box.cell 22
      have c23:=HM.out.box.cell 23
      have c24:=HM.out.box.cell 24
      have hfz:=HM.out.box.frozen
      rw [show (tsE nm (slV ls) ts 0 0 0)[22]? = some (.int .i64 0) from rfl] at c22
      rw [show (tsE nm (slV ls) ts 0 0 0)[23]? = some (.int .i64 0) from rfl] at c23
      rw [show (tsE nm (slV ls) ts 0 0 0)[24]? = some (.int .i64 0) from rfl] at c24
      replace HM:=Lib.hid (HM.out.ends qv shv cv)
      go_wp2_with fail
      clear c22 c23 c24 hfz
      generalize ((w9.setCell ⟨w.heap.size+1,22,none⟩ (.int .i64 qv)).setCell ⟨w.heap.size+1,23,none⟩ (.int .i64 shv)).setCell ⟨w.heap.size+1,24,none⟩ (.int .i64 cv)=w16 at *
      obtain ⟨⟨xk,xt,xn,xp⟩,hx⟩:=HM.out.ps.get
      have hv:=HPV.out
      rw [drop_at hx] at hv
      have HX1:=Lib.hid hx
      have HPV3 : Hid (V=(if xk=3 then PX.ok () (⟨xk,xt,xn,xp⟩ :: L.l.drop (b1+1)) else .stop xp 12).bind fun _ r=>.ok ⟨nm,ls.l.map shL,(ts.map shp).getD 0 psZ,(ts.map shp).getD 1 psZ,(ts.map shp).getD 2 psZ,(ts.map shp).getD 3 psZ,qv,shv,cv⟩ r):=Lib.hid hv
      clear hv hx HPV
      refine (p_next HX1.out w16 HM.out.ps).mono ?_
      rintro r w17 ⟨rfl,hb17⟩
      replace HM:=Lib.hid (HM.out.later hb17)
      clear hb17
      simp only [TK.v]
      have hq0 : ∀ w : World,(Instr.field 115 (Value.agg #[.int .i64 xk,.string xt,.int .i64 xn,.int .i64 xp]) 0).run Tryz.prog w = .ok (.int .i64 xk) w:=fun _=>by kernel_rfl
      by_cases h3 : xk=3
      · have h3b : (xk == 3)=true:=by rw [h3]; rfl
        have HPE : Hid (V = .ok ⟨nm,ls.l.map shL,(ts.map shp).getD 0 psZ,(ts.map shp).getD 1 psZ,(ts.map shp).getD 2 psZ,(ts.map shp).getD 3 psZ,qv,shv,cv⟩ (⟨xk,xt,xn,xp⟩ :: L.l.drop (b1+1))):=Lib.hid (by rw [HPV3.out,if_pos h3]; rfl)
        clear HPV3 h3
        go_wp2_with fail
        refine (p_check_ok _ 12 w17).mono ?_
        rintro r w18 ⟨rfl,rfl⟩
        go_wp2_with (refine wpList_load_row rfl 28 (.tmp 3) rfl (w.heap.size+1) rfl 28 (tsE nm (slV ls) ts qv shv cv) (0,0) _ HM.out.box Tryz.underlying28 rfl (by kernel_rfl) ?_; refine wpList_store_row rfl 28 (.tmp 2) (.tmp 57) rfl w.heap.size (tsE nm (slV ls) ts qv shv cv) rfl rfl 28 _ HM.out.res (by kernel_rfl) rfl (by kernel_rfl) ?_)
        have HFI:=Lib.hid (HM.out.fin (l:=⟨xk,xt,xn,xp⟩ :: L.l.drop (b1+1)) HNM.out HXG.out HT4.out)
        have HRW:=Lib.hid (setRow_heap w17 w.heap.size _ (tsE nm (slV ls) ts qv shv cv) _ _ HM.out.res)
        clear HM hq0 h3b
        apply Hid.out
        generalize w17.setRow w.heap.size (tsE nm (slV ls) ts qv shv cv)=w19 at *
        refine Lib.hid ?_
        go_wp2_with fail
        refine bodyPost_ret (results_cell_row rfl _ _ w.heap.size 28 (tsE nm (slV ls) ts qv shv cv) (0,0) _ rfl HRW.out Tryz.underlying28 rfl (by kernel_rfl)) rfl ?_
        rw [HPE.out]
        exact HFI.out
      · have h3b : (xk == 3)=false:=by simpa using h3
        have HPE : Hid (V = .stop xp 12):=Lib.hid (by rw [HPV3.out,if_neg h3]; rfl)
        clear HPV3 h3
        go_wp2_with fail
        refine (p_check_no HX1.out 12 w17 HM.out.ps).mono ?_
        rintro r w18 ⟨rfl,hb18⟩
        have HG9:=Lib.hid (grown_trans HM.out.gr (below_by hb18 _))
        clear hb18
        simp only [StopV]
        go_wp2_with fail
        exact ⟨rfl,HG9.out,by rw [HPE.out]; rfl⟩
theorem pb_idle (p q r : Addr) (w : World) :
    CallsD Tryz.prog 36 #[.pointer (some p),.pointer (some q),.pointer (some r)] .returning w fun e u' w'=>e = .returned (.tuple #[])∧u' = .returning∧Below w.heap.size w w':=by
  refine callsD_of_wpS Tryz.func36 rfl fun c₀ cs hu=>?_
  apply wpS_seq
  apply wpS_region
  simp [wpOpsS,go_sem,recoverD,hu,Tryz.ntmps36,Exit.thenS]
  refine (caught_idle _ _ _).mono ?_
  rintro e w1 ⟨rfl,hb1⟩
  refine wpS_of_wp ?_
  generalize htm : (#[Value.pointer (some p),Value.pointer (some q),Value.pointer (some r)] ++ ((Array.replicate 3 undef).setIfInBounds 0 Value.nilIface).setIfInBounds 1 (Value.bool false))=tm
  have htm2 : tm = #[.pointer (some p),.pointer (some q),.pointer (some r),.nilIface,.bool false,undef]:=by rw [← htm]; rfl
  subst htm2
  clear htm
  go_wp2_with fail
  exact ⟨rfl,.returning,by rw [← hu],_,by simp [results,Tryz.results36,go_sem],rfl,rfl,hb1⟩
theorem pb_catch (p q r : Nat) (hpq : p≠q) (hpr : p≠r) (hqr : q≠r) (B : Nat) (hBp : B≤p) (hBq : B≤q) (hBr : B≤r) (ps en : Int) (older : List PanicEntry) (w : World) (hB : B≤w.heap.size) (x y : Value) (old : Array Value) (ho : old.size=25) (hp : Blk w p 3 #[x]) (hq : Blk w q 33 #[y]) (hr : Blk w r 28 old) :
    CallsD Tryz.prog 36 #[.pointer (some ⟨p,0,none⟩),.pointer (some ⟨q,0,none⟩),.pointer (some ⟨r,0,none⟩)] (.panicking ({ v:=stopV ps en,recovered:=false } :: older)) w fun e u' w' =>
      e = .returned (.tuple #[])∧u' = .panicking ({ v:=stopV ps en,recovered:=true } :: older)∧Blk w' p 3 #[.int .i64 ps]∧Blk w' q 33 #[.int .i64 en]∧Blk w' r 28 #[.string (⟨#[]⟩ : ByteArray),.slice none 0 0,.int .i64 0,.int .i64 0,.int .i64 0,.string (⟨#[]⟩ : ByteArray),.slice none 0 0,.int .i64 0,.int .i64 0,.int .i64 0,.string (⟨#[]⟩ : ByteArray),.slice none 0 0,.int .i64 0,.int .i64 0,.int .i64 0,.string (⟨#[]⟩ : ByteArray),.slice none 0 0,.int .i64 0,.int .i64 0,.int .i64 0,.string (⟨#[]⟩ : ByteArray),.slice none 0 0,.int .i64 0,.int .i64 0,.int .i64 0]∧Below B w w':=by
  refine callsD_of_wpS Tryz.func36 rfl fun c₀ cs hu=>?_
  apply wpS_seq
  apply wpS_region
  simp [wpOpsS,go_sem,recoverD,hu,Tryz.ntmps36,Exit.thenS]
  refine (caught_stop p q hpq B hBp hBq ps en w hB x y hp hq).mono ?_
  rintro e w1 ⟨rfl,hp1,hq1,hk1,hb1⟩
  have HR1 : Hid (Blk w1 r 28 old):=Lib.hid ((hk1 r hr.lt (Ne.symm hpr) (Ne.symm hqr)).trans hr)
  have HP1:=Lib.hid hp1
  have HQ1:=Lib.hid hq1
  have HB1:=Lib.hid hb1
  clear hp hq hr hp1 hq1 hk1 hb1
  refine wpS_of_wp ?_
  generalize htm : (#[Value.pointer (some ⟨p,0,none⟩),Value.pointer (some ⟨q,0,none⟩),Value.pointer (some ⟨r,0,none⟩)] ++ ((Array.replicate 3 undef).setIfInBounds 0 (stopV ps en)).setIfInBounds 1 (Value.bool true))=tm
  have htm2 : tm = #[.pointer (some ⟨p,0,none⟩),.pointer (some ⟨q,0,none⟩),.pointer (some ⟨r,0,none⟩),stopV ps en,.bool true,undef]:=by rw [← htm]; rfl
  subst htm2
  clear htm
  go_wp2_with (refine wpList_store_row rfl 28 (.tmp 2) (.tmp 5) rfl r #[.string (⟨#[]⟩ : ByteArray),.slice none 0 0,.int .i64 0,.int .i64 0,.int .i64 0,.string (⟨#[]⟩ : ByteArray),.slice none 0 0,.int .i64 0,.int .i64 0,.int .i64 0,.string (⟨#[]⟩ : ByteArray),.slice none 0 0,.int .i64 0,.int .i64 0,.int .i64 0,.string (⟨#[]⟩ : ByteArray),.slice none 0 0,.int .i64 0,.int .i64 0,.int .i64 0,.string (⟨#[]⟩ : ByteArray),.slice none 0 0,.int .i64 0,.int .i64 0,.int .i64 0] rfl rfl 28 _ HR1.out (by kernel_rfl) ho (by kernel_rfl) ?_)
  refine ⟨rfl,_,rfl,_,by simp [results,Tryz.results36,go_sem],rfl,rfl, ?_, ?_, ?_, ?_⟩
  · exact (setRow_other _ _ _ _ hpr).trans HP1.out
  · exact (setRow_other _ _ _ _ hqr).trans HQ1.out
  · exact setRow_heap _ _ _ _ _ _ HR1.out
  · exact HB1.out.trans ⟨rfl,rfl,rfl,by simp [World.setRow],fun k hk=>setRow_other _ _ k _ (by omega)⟩
def XQ (g : Nat) (w : World) (i : Nat) : Prop:=i=g∨i<w.heap.size+3
structure PbT (g : Nat) (w W : World) : Prop where
  res : Blk W w.heap.size 28 #[.string (⟨#[]⟩ : ByteArray),.slice none 0 0,.int .i64 0,.int .i64 0,.int .i64 0,.string (⟨#[]⟩ : ByteArray),.slice none 0 0,.int .i64 0,.int .i64 0,.int .i64 0,.string (⟨#[]⟩ : ByteArray),.slice none 0 0,.int .i64 0,.int .i64 0,.int .i64 0,.string (⟨#[]⟩ : ByteArray),.slice none 0 0,.int .i64 0,.int .i64 0,.int .i64 0,.string (⟨#[]⟩ : ByteArray),.slice none 0 0,.int .i64 0,.int .i64 0,.int .i64 0]
  pos : ∃ x,Blk W (w.heap.size+1) 3 #[x]
  err : ∃ x,Blk W (w.heap.size+1+1) 33 #[x]
  gr : w.grownBy W (some g)
  gq : w.heap.size+3≤g
theorem PbT.step {g : Nat} {w W W' : World} (s : PbT g w W) (hg : W.grownBy W' (some g)) : PbT g w W':=by
  obtain ⟨x,hx⟩:=s.pos
  obtain ⟨y,hy⟩:=s.err
  have:=s.gq
  exact ⟨s.res.gm hg (by omega),⟨x,hx.gm hg (by omega)⟩,⟨y,hy.gm hg (by omega)⟩,grown_trans s.gr hg,s.gq⟩
theorem PbT.start {g : Nat} {L : Sl TK} {w w1 : World} {a b : Value} (hres : Blk w1 w.heap.size 28 #[.string (⟨#[]⟩ : ByteArray),.slice none 0 0,.int .i64 0,.int .i64 0,.int .i64 0,.string (⟨#[]⟩ : ByteArray),.slice none 0 0,.int .i64 0,.int .i64 0,.int .i64 0,.string (⟨#[]⟩ : ByteArray),.slice none 0 0,.int .i64 0,.int .i64 0,.int .i64 0,.string (⟨#[]⟩ : ByteArray),.slice none 0 0,.int .i64 0,.int .i64 0,.int .i64 0,.string (⟨#[]⟩ : ByteArray),.slice none 0 0,.int .i64 0,.int .i64 0,.int .i64 0]) (hpo : Blk w1 (w.heap.size+1) 3 #[a]) (her : Blk w1 (w.heap.size+1+1) 33 #[b]) (hbk : Blk w1 g 100 #[.slice L.A L.l.length L.c,.int .i64 0]) (hrd : Rd (fun b=>w.heap.size+3≤b∧b<g) 4 TK.enc w1 L) (hb : Below w.heap.size w w1) (hgp : w.heap.size+3≤g) (hl : 0<L.l.length) (u v : Value) :
    PbT g w ((w1.setCell ⟨w.heap.size+1,0,none⟩ u).setCell ⟨w.heap.size+1+1,0,none⟩ v)∧PrS g L 0 (XQ g w) ((w1.setCell ⟨w.heap.size+1,0,none⟩ u).setCell ⟨w.heap.size+1+1,0,none⟩ v):=by
  have hB : Below w.heap.size w ((w1.setCell ⟨w.heap.size+1,0,none⟩ u).setCell ⟨w.heap.size+1+1,0,none⟩ v):=(hb.setCell (by simp only; omega) _).setCell (by simp only; omega) _
  have hglt:=hbk.lt
  refine ⟨⟨(hres.far (by simp only; omega) _).far (by simp only; omega) _,⟨u, ?_⟩,⟨v, ?_⟩,below_by hB _,hgp⟩,(hbk.far (by simp only; omega) _).far (by simp only; omega) _, ?_,hl,.inl rfl,fun c hc=>?_⟩
  · exact (by simpa using ((hpo.set_ 0 u).far (p:=⟨w.heap.size+1+1,0,none⟩) (by simp only; omega) v))
  · exact (by simpa using ((her.far (p:=⟨w.heap.size+1,0,none⟩) (by simp only; omega) u).set_ 0 v))
  · refine (hrd.keep (fun c hc=>(Below.heap_setCell _ _ _ c (by simp only; omega)).trans (Below.heap_setCell _ _ _ c (by simp only; omega)))).mono (fun c hc=>⟨by simp; omega,fun hx=>?_⟩)
    rcases hx with hx | hx <;> omega
  · rcases hc with rfl | hc
    · simpa using hglt
    · simp; omega
def ParB (w w' : World) (x : Option BS × Int × Int) (r : Ending) : Prop:=Below w.heap.size w w'∧match x.1 with
  | some s=>∃ b : Byl,shB b=s∧Byl.At (Nw w.heap.size w') w' b∧r = .returned (.tuple #[b.v,.int .i64 x.2.1,.int .i64 x.2.2])
  | none=>r = .returned (.tuple #[.agg #[.string (⟨#[]⟩ : ByteArray),.slice none 0 0,.int .i64 0,.int .i64 0,.int .i64 0,.string (⟨#[]⟩ : ByteArray),.slice none 0 0,.int .i64 0,.int .i64 0,.int .i64 0,.string (⟨#[]⟩ : ByteArray),.slice none 0 0,.int .i64 0,.int .i64 0,.int .i64 0,.string (⟨#[]⟩ : ByteArray),.slice none 0 0,.int .i64 0,.int .i64 0,.int .i64 0,.string (⟨#[]⟩ : ByteArray),.slice none 0 0,.int .i64 0,.int .i64 0,.int .i64 0],.int .i64 x.2.1,.int .i64 x.2.2])
theorem parsB_lex {l : List UInt8} {V : List TK × Int × Int} (hV : lexT l=V) (h : V.2.2≠0) : parsB l=(none,V.2):=by
  unfold parsB
  rw [hV,if_pos h]
theorem parsB_stop {l : List UInt8} {V : List TK × Int × Int} {p e : Int} (hV : lexT l=V) (h : V.2.2=0) (hp : bylT (5 * V.1.length+10) V.1 = .stop p e) : parsB l=(none,p,e):=by
  unfold parsB
  rw [hV,if_neg (fun h'=>h' h),hp]
theorem parsB_ok {l : List UInt8} {V : List TK × Int × Int} {b : BS} {r : List TK} (hV : lexT l=V) (h : V.2.2=0) (hp : bylT (5 * V.1.length+10) V.1 = .ok b r) : parsB l=(some b,0,0):=by
  unfold parsB
  rw [hV,if_neg (fun h'=>h' h),hp]
theorem parse_results (tmps : Array Value) (w : World) (g p q : Nat) (cs : Array Value) (x y : Value) (hc : (Tryz.prog.info? 28).map (·.size)=some cs.size) (h2 : tmps.getD 2 undef = .pointer (some ⟨g,0,none⟩)) (h3 : tmps.getD 3 undef = .pointer (some ⟨p,0,none⟩)) (h4 : tmps.getD 4 undef = .pointer (some ⟨q,0,none⟩))
    (hg : Blk w g 28 cs) (hp : Blk w p 3 #[x]) (hq : Blk w q 33 #[y]) : (results Tryz.f21 tmps).run Tryz.prog w = .ok (.tuple #[.agg cs,x,y]) w:=by
  have h2' : tmps[2]?.getD undef = .pointer (some ⟨g,0,none⟩):=by simpa using h2
  have h3' : tmps[3]?.getD undef = .pointer (some ⟨p,0,none⟩):=by simpa using h3
  have h4' : tmps[4]?.getD undef = .pointer (some ⟨q,0,none⟩):=by simpa using h4
  obtain ⟨p0,pf,pz⟩:=hp.b1
  obtain ⟨q0,qf,qz⟩:=hq.b1
  simp only [results,Tryz.results21,List.map_toArray,List.map_cons,List.map_nil]
  simp [h2',h3',h4',asAddr,run_loadVar_row w g 28 28 cs (0,0) _ hg Tryz.underlying28 rfl hc]
  simp [go_sem,p0,q0]
end Go.Proofs.YtpbdjpfbhicmdaaGreatDoor
