/- Walks of law 32: inside, uses. -/
import Derived.Test.YtcgocdhhneckhaaGreatDoorEvbxaz
set_option linter.unusedSimpArgs false
set_option linter.unusedVariables false
set_option maxRecDepth 100000
set_option maxHeartbeats 6400000
namespace Go.Proofs.YtcgocdhhneckhaaGreatDoor
open Go.RowKit
def NoP (w w' : World) (P : Prop) (r : Ending) : Prop:=∃ t,r = .returned (.bool t)∧(t=false→P)∧Below w.heap.size w w'
def InsIH (n : Nat) : Prop:=∀ (s : ByteArray) (e : PT) (w : World),SizeOf.sizeOf e<n→PT.At (· < w.heap.size) w e→Calls Tryz.prog 44 #[e.v,.string s] w fun r w'=>NoP w w' (NotS s e) r
theorem ins_more (n : Nat) (ih : InsIH n) : InsIH (n+1):=by
 rintro s ⟨p,m,u,x,A,c,l⟩ w hn he;have IH:=Zh ih;have HE:=Zh he;have HN:=Zh hn;have hlen:=he.rd.len;clear ih he hn;simp only [PT.a] at hlen;simp only [PT.v];rcases hs : sameB x s
 ·have heq : (x.toList == s.toList)=false:=hs;have HO : Hid (sameB x s=false):=Zh hs;clear hs;go_enter Tryz.func44,Tryz.ntmps44;go_wp2_with fail;have HB1 : Hid (Below w.heap.size w (w.alloc (.cells #[.int .i64 p,.int .i64 m,.int .i64 u,.string x,.slice A l.length c] 25))):=Zh qbl;have HX1:=Zh (Blk.new w 25 #[.int .i64 p,.int .i64 m,.int .i64 u,.string x,.slice A l.length c]);generalize w.alloc (.cells _ 25)=w1 at *;go_loopw [5] (fun i wr=>∃ (j : Nat),j≤l.length∧i = .int .i64 j∧Below w1.heap.size w1 wr∧Hid (∀ y,y ∈ l.take j→NotS s y)) (fun i _=>l.length - (intOf i).toNat)
  case atStart=>exact ⟨0,by omega,rfl,Below.refl _ _,Zh (fun y hy=>by simp at hy)⟩
  case round =>
   obtain ⟨j,hj,rfl,hbel,HT⟩:=hrel;have HBR:=Zt HB1 hbel;have HXR:=Zh (HX1.out.later hbel);obtain ⟨a0,a1,a2,a3,a4,af,az⟩:=HXR.out.b5;by_cases hlt : j<l.length
   ·have hEW:=HE.out.later HBR.out;obtain ⟨b,q,hA,hbl,hcl⟩:=hEW.rd.at1 hlt;have HX:=Zh (hEW.all _ (List.getElem_mem hlt));have HSZ : Hid (SizeOf.sizeOf l[j]<n):=Zh (by have:=List.sizeOf_lt_of_mem (List.getElem_mem hlt); have h0:=HN.out; simp only [PT.mk.sizeOf_spec] at h0; omega)
    have HSTEP : Hid (NotS s l[j]→∀ y,y ∈ l.take (j+1)→NotS s y):=Zh (fun h y hy=>by
     rw [List.take_succ_eq_append_getElem hlt] at hy;rcases List.mem_append.1 hy with hy | hy
     ·exact HT.out y hy
     ·rw [List.mem_singleton.1 hy]; exact h)
    simp only [PT.a] at hA hcl HX;clear hEW;generalize l[j]=y at *;obtain ⟨xo,xm,xu,xs,xA,xc,xl⟩:=y;obtain ⟨g0,g1,g2,g3,g4⟩:=Cells.c5 hcl;clear hcl;subst hA;have hcall:=IH.out s ⟨xo,xm,xu,xs,xA,xc,xl⟩ wr HSZ.out HX.out;simp only [PT.v] at hcall;go_wp2_with fail;refine hcall.mono ?_;clear hcall;rintro e w2 ⟨t,rfl,ht,hb2⟩;have HB2 : Hid (Below w1.heap.size w1 w2):=Zh (hbel.trans (hb2.mono hbel.size));clear g0 g1 g2 g3 g4 a0 a1 a2 a3 a4 af az;rcases t
    ·have HT2:=Zh (HSTEP.out (ht rfl));clear ht hb2;go_wp2_with fail;go_roundw
     case rel=>exact ⟨j+1,by omega,by go_num,HB2.out,HT2⟩
     case measure=>simp [intOf]; omega
    ·clear ht;go_wp2_with fail;go_ret;exact ⟨true,rfl,by simp,HBR.out.trans (hb2.mono HBR.out.size)⟩
   ·have HF : Hid (NotS s ⟨p,m,u,x,A,c,l⟩):=Zh (.mk HO.out fun y hy=>HT.out y (by rw [List.take_of_length_le Zo]; exact hy));go_wp2_with fail;go_ret;exact ⟨false,rfl,fun _=>HF.out,HBR.out⟩
 ·have heq : (x.toList == s.toList)=true:=hs;clear hs;go_enter Tryz.func44,Tryz.ntmps44;go_wp2_with fail;go_ret;exact ⟨true,rfl,by simp,qbl⟩
theorem ins_any : ∀ n,InsIH n
 | 0=>fun _ _ _ h=>absurd h (Nat.not_lt_zero _)
 | n+1=>ins_more n (ins_any n)
theorem law_inside (s : ByteArray) (e : PT) (w : World) (he : PT.At (· < w.heap.size) w e) : Calls Tryz.prog 44 #[e.v,.string s] w fun r w'=>NoP w w' (NotS s e) r:=ins_any (SizeOf.sizeOf e+1) s e w Zo he
theorem law_uses (L : Sl LT) (e : PT) (s : ByteArray) (w : World) (hL : LetsAt (· < w.heap.size) w L) (he : PT.At (· < w.heap.size) w e) : Calls Tryz.prog 17 #[.slice L.A L.l.length L.c,e.v,.string s] w fun r w'=>NoP w w' ((∀ x,x ∈ L.l→sameB x.nm s=false∧NotS s x.b)∧NotS s e) r:=by
 have HL:=Zh hL;have HE:=Zh he;have hn:=hL.rd.len;clear hL he;obtain ⟨LA,Lc,L⟩:=L;obtain ⟨xo,xm,xu,xs,xA,xc,xl⟩:=e;simp only at hn;simp only [PT.v];go_enter Tryz.func17,Tryz.ntmps17;go_wp2_with fail;have HB1 : Hid (Below w.heap.size w (w.alloc (.cells #[.int .i64 xo,.int .i64 xm,.int .i64 xu,.string xs,.slice xA xl.length xc] 25))):=Zh qbl;have HX1:=Zh (Blk.new w 25 #[.int .i64 xo,.int .i64 xm,.int .i64 xu,.string xs,.slice xA xl.length xc]);generalize w.alloc (.cells _ 25)=w1 at *;go_loopw [7] (fun i wr=>∃ (j : Nat),j≤L.length∧i = .int .i64 j∧Below w1.heap.size w1 wr∧Hid (∀ y,y ∈ L.take j→sameB y.nm s=false∧NotS s y.b)) (fun i _=>L.length - (intOf i).toNat)
 case atStart=>exact ⟨0,by omega,rfl,Below.refl _ _,Zh (fun y hy=>by simp at hy)⟩
 case round =>
  obtain ⟨k,hk,rfl,hbel,HT⟩:=hrel;have HBR:=Zt HB1 hbel;have HXR:=Zh (HX1.out.later hbel);by_cases hlt : k<L.length
  ·have hLW:=HL.out.later HBR.out;obtain ⟨b,p,hA,hb,hcl⟩:=hLW.rd.at1 hlt;have HX:=Zh (hLW.all _ (List.getElem_mem hlt))
   have HSTEP : Hid (sameB L[k].nm s=false∧NotS s L[k].b→∀ y,y ∈ L.take (k+1)→sameB y.nm s=false∧NotS s y.b):=Zh (fun h y hy=>by
    rw [List.take_succ_eq_append_getElem hlt] at hy;rcases List.mem_append.1 hy with hy | hy
    ·exact HT.out y hy
    ·rw [List.mem_singleton.1 hy]; exact h)
   simp only at hA hcl HX;subst hA;clear hLW;generalize L[k]=y at *;obtain ⟨yn,yo,ym,yu,ys,yA,yc,yl⟩:=y;obtain ⟨g0,g1,g2,g3,g4,g5⟩:=Cells.c6 hcl;clear hcl;rcases hsn : sameB yn s
   ·have heq : (yn.toList == s.toList)=false:=hsn;have HSN:=Zh hsn;clear hsn;go_wp2_with fail;refine (law_inside s ⟨yo,ym,yu,ys,yA,yc,yl⟩ wr HX.out.b).mono ?_;rintro e w6 ⟨t,rfl,ht,hb6⟩;have HB6 : Hid (Below w1.heap.size w1 w6):=Zh (hbel.trans (hb6.mono hbel.size));clear g0 g1 g2 g3 g4 g5;rcases t
    ·have HT2:=Zh (HSTEP.out ⟨HSN.out,ht rfl⟩);clear ht hb6;go_wp2_with fail;go_roundw
     case rel=>exact ⟨k+1,by omega,by go_num,HB6.out,HT2⟩
     case measure=>simp [intOf]; omega
    ·clear ht;go_wp2_with fail;go_ret;exact ⟨true,rfl,by simp,HBR.out.trans (hb6.mono HBR.out.size)⟩
   ·have heq : (yn.toList == s.toList)=true:=hsn;clear hsn;go_wp2_with fail;go_ret;exact ⟨true,rfl,by simp,HBR.out⟩
  ·obtain ⟨a0,a1,a2,a3,a4,af,az⟩:=HXR.out.b5;have HALL : Hid (∀ y,y ∈ L→sameB y.nm s=false∧NotS s y.b):=Zh (fun y hy=>HT.out y (by rw [List.take_of_length_le Zo]; exact hy));go_wp2_with fail;refine (law_inside s (⟨xo,xm,xu,xs,xA,xc,xl⟩ : PT) wr (HE.out.later HBR.out)).mono ?_;rintro e w6 ⟨t,rfl,ht,hb6⟩;have HTT:=Zh ht;clear ht;go_wp2_with fail;go_ret;exact ⟨t,rfl,fun h=>⟨HALL.out,HTT.out h⟩,HBR.out.trans (hb6.mono HBR.out.size)⟩
end Go.Proofs.YtcgocdhhneckhaaGreatDoor
