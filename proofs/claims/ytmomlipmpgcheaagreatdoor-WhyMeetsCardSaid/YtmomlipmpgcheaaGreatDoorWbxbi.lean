/- Walk of why.Holds. -/
import Derived.Test.YtmomlipmpgcheaaGreatDoorWbxbf
import Derived.Test.YtmomlipmpgcheaaGreatDoorWbxbh
import Derived.Test.YtmomlipmpgcheaaGreatDoorWbxaj
import Derived.Test.YtmomlipmpgcheaaGreatDoorWbxah
set_option linter.unusedSimpArgs false
set_option linter.unusedVariables false
set_option maxRecDepth 100000
set_option maxHeartbeats 6400000
namespace Go.Proofs.YtmomlipmpgcheaaGreatDoor
open Go.RowKit
def bareT (x : TH) : TH:={ x with o:=⟨none,0,[]⟩ }
def HolV (L : List LT) (e : PT) (l : List TH) : Bool × Int:=if rightT [] l=true then ansW L e l (zW (nsT l)) else (false,1)
theorem stepW_z (w : List Nat) : stepW [w] 0=[w ++ [0]]:=by simp [stepW]
theorem enumW_z : ∀ n : Nat,enumW (List.replicate n 0)=[List.replicate n 0]
  | 0=>rfl
  | n+1=>by
    rw [List.replicate_succ',enumW_snoc,enumW_z n,stepW_z]
theorem ns_bare (l : List TH) : nsT (l.map bareT)=List.replicate l.length 0:=by
  unfold nsT
  induction l with
  | nil=>rfl
  | cons x r ih=>rw [List.map_cons,List.map_cons,ih]; rfl
theorem facT_bare (m : Bool) : ∀ (l : List TH) (n : Nat),facT m (l.map bareT) (List.replicate n 0)=facT m l (List.replicate n 0)
  | [],_=>rfl
  | x :: r,n=>by
    have ht : (List.replicate n 0).tail=List.replicate (n - 1) 0:=by cases n <;> rfl
    have hh : (List.replicate n 0).headD 0=0:=by cases n <;> rfl
    rw [List.map_cons,facT,facT,ht,facT_bare m r (n - 1),hh]
    rfl
theorem ans_bare (L : List LT) (e : PT) (l : List TH) (n : Nat) : ansW L e (l.map bareT) (List.replicate n 0)=ansW L e l (List.replicate n 0):=by
  unfold ansW
  rw [facT_bare,facT_bare]
structure StH (w : World) (cs ex : Array Value) (W : World) (O : Sl TH) : Prop where
  b : Below w.heap.size w W
  x : Blk W w.heap.size 29 cs
  y : Blk W (w.heap.size+1) 25 ex
  o : Own (w.heap.size+2) 61 4 TH.enc W O
theorem StH.later {w W W' : World} {cs ex : Array Value} {O : Sl TH} (h : StH w cs ex W O) (hb : Below W.heap.size W W') : StH w cs ex W' O :=
  ⟨h.b.trans (hb.mono h.b.size),h.x.later hb,h.y.later hb,h.o.below hb⟩
theorem StH.grow {w W W' : World} {cs ex : Array Value} {O O' : Sl TH} (h : StH w cs ex W O) (ho : Own (w.heap.size+2) 61 4 TH.enc W' O') (hg : W.grownBy W' (Value.slice O.A O.l.length O.c).ownBlock) : StH w cs ex W' O' :=
  ⟨h.b.grown hg h.b.size (fun j hj=>by have:=own_geI h.o j hj; omega),h.x.grown hg (blk_ne_own h.x h.o (by decide)),h.y.grown hg (blk_ne_own h.y h.o (by decide)),ho⟩
theorem why_Holds (b : Byl) (e : PT) (l : Sl TH) (w : World) (hb : Byl.At (· < w.heap.size) w b) (he : PT.At (· < w.heap.size) w e) (hl : ThsAt (· < w.heap.size) w l) (h4 : l.l.length≤4) (h2 : ∀ x,x ∈ l.l→x.o.l.length≤2) :
    Calls Tryz.prog 10 #[b.v,e.v,.slice l.A l.l.length l.c] w fun r w'=>r = .returned (.tuple #[.bool (HolV b.lets.l e l.l).1,.int .i64 (HolV b.lets.l e l.l).2])∧Below w.heap.size w w':=by
  have HBY:=Lib.hid hb
  have HEX:=Lib.hid he
  have HL:=Lib.hid hl
  have H2:=Lib.hid h2
  clear hb he hl h2
  obtain ⟨A,c,l⟩:=l
  simp only at h4 H2 ⊢
  obtain ⟨R,hR⟩ : ∃ z,rightT [] l=z:=⟨_,rfl⟩
  obtain ⟨V,hV⟩ : ∃ z,HolV b.lets.l e l=z:=⟨_,rfl⟩
  rw [hV]
  have HV : Hid (V=if R=true then ansW b.lets.l e l (zW (nsT l)) else (false,1)):=Lib.hid (by rw [← hV,← hR]; rfl)
  clear hV
  obtain ⟨cs,hcs,hsz⟩:=byl_cs b
  have HCS:=Lib.hid hcs
  rw [hcs]
  obtain ⟨o,n,u,s,xA,xc,xl⟩:=e
  simp only [PT.v]
  clear hcs
  have hri:=fun W (hW : Below w.heap.size w W)=>why_Right ⟨A,c,l⟩ W (HL.out.later hW) h4 H2.out
  simp only [hR] at hri
  clear hR
  go_enter Tryz.func10,Tryz.ntmps10
  go_wp2_with fail
  obtain ⟨ex,hex⟩ : ∃ x : Array Value,#[.int .i64 o,.int .i64 n,.int .i64 u,.string s,.slice xA xl.length xc]=x:=⟨_,rfl⟩
  have HST : Hid (StH w cs ex (((w.alloc (.cells cs 29)).alloc (.cells ex 25))) ⟨none,0,[]⟩):=Lib.hid ⟨qbl,((Blk.new _ _ _).alloc _),(Blk.new' (by simp)),Own.nil _ _ _ _ _⟩
  rw [hex]
  have HEX0:=Lib.hid hex
  clear hex
  generalize (((w.alloc (.cells cs 29)).alloc (.cells ex 25)))=w1 at *
  refine (hri _ HST.out.b).mono ?_
  clear hri
  rintro e w2 ⟨rfl,hb2⟩
  have HS2:=Lib.hid (HST.out.later hb2)
  clear HST hb2
  rcases R with _ | _
  · have HVF:=Lib.hid HV.out
    simp only [Bool.false_eq_true,if_false] at HVF
    go_wp2_with fail
    try simp only [Exit.inBlock,Exit.then]
    refine bodyPost_ret (v:=.tuple #[.bool false,.int .i64 1]) ?_ rfl ⟨by rw [HVF.out],HS2.out.b⟩
    simp [results,Tryz.results10,go_sem,]
  · have HVT : Hid (V=ansW b.lets.l (PT.mk o n u s xA xc xl) l (zW (nsT l))):=Lib.hid (by have h:=HV.out; simpa using h)
    clear HV
    go_wp2_with fail
    go_loopw [8,17] (fun ov iv wq=>∃ (k : Nat) (oA : Option Addr) (oc : Nat) (out : List TH),k≤l.length∧ov = .slice oA out.length oc∧iv = .int .i64 k∧Hid (StH w cs ex wq ⟨oA,oc,out⟩)∧Hid (out=(l.take k).map bareT)) (fun _ iv _=>l.length - (intOf iv).toNat)
    case atStart=>exact ⟨0,none,0,[],by omega,rfl,rfl,HS2,Lib.hid rfl⟩
    case round =>
      clear HS2
      obtain ⟨k,oA,oc,out,hk,rfl,rfl,HS,HO⟩:=hrel
      by_cases hlt : k<l.length
      · obtain ⟨bb,oo,hA,hbb,hcl⟩:=HL.out.rd.at1 hlt
        simp only at hA hbb hcl
        have hcl2:=hcl.keep (HS.out.b.block bb hbb)
        have hsn : l.take (k+1)=l.take k ++ [l[k]]:=by rw [List.take_add_one,List.getElem?_eq_getElem hlt]; rfl
        have hon : out ++ [bareT l[k]]=(l.take (k+1)).map bareT:=by rw [hsn,List.map_append,HO.out]; rfl
        have hol : out.length≤4:=by rw [HO.out,List.length_map,List.length_take]; omega
        generalize l[k]=y at *
        obtain ⟨ym,yn,yv,⟨yA,yc,yl⟩⟩:=y
        obtain ⟨g0,g1,g2,g3⟩:=Cells.c4 hcl2
        simp only at g0 g1 g2 g3
        have HON:=Lib.hid hon
        clear hcl2 hcl hon hsn
        subst hA
        have hk8 : (k : Int)<(l.length : Int):=by omega
        have HXB : Hid (Blk (wr.alloc (.cells #[.bool ym,.string yn,.int .i64 yv,.slice none 0 0] 61)) wr.heap.size 61 #[.bool ym,.string yn,.int .i64 yv,.slice none 0 0]):=Lib.hid (Blk.new _ _ _)
        have hb2 : Below wr.heap.size wr ((wr.alloc (.cells #[.bool ym,.string yn,.int .i64 yv,.slice none 0 0] 61)).alloc (.cells #[.bool ym,.string yn,.int .i64 yv,.slice none 0 0] 61)):=((Below.refl _ _).alloc (Nat.le_refl _) _).alloc (by simp) _
        have HS1:=Lib.hid (HS.out.later hb2)
        have HR1 : Hid (Rd (· < ((wr.alloc (.cells #[.bool ym,.string yn,.int .i64 yv,.slice none 0 0] 61)).alloc (.cells #[.bool ym,.string yn,.int .i64 yv,.slice none 0 0] 61)).heap.size) 4 TH.enc ((wr.alloc (.cells #[.bool ym,.string yn,.int .i64 yv,.slice none 0 0] 61)).alloc (.cells #[.bool ym,.string yn,.int .i64 yv,.slice none 0 0] 61)) ⟨some ⟨wr.heap.size+1,0,none⟩,1,[bareT ⟨ym,yn,yv,⟨yA,yc,yl⟩⟩]⟩):=Lib.hid (rd_oneG (enc:=TH.enc) (k:=4) (t:=61) (x:=bareT ⟨ym,yn,yv,⟨yA,yc,yl⟩⟩) (Blk.new' (by simp)))
        clear hb2 HS
        go_wp2_with (first
          | (refine wpList_load_row rfl 61 (.tmp 10) rfl wr.heap.size rfl 61 #[.bool ym,.string yn,.int .i64 yv,.slice none 0 0] (0,0) _ HXB.out Tryz.underlying61 rfl (by kernel_rfl) ?_)
          | (at_builtin
             go_must (refine wpl_append_sl _ rfl (.tmp 22) (.tmp 24) _ rfl Tryz.underlying34 infoTH (by omega) TH.enc_k TH.enc_one ⟨oA,oc,out⟩ ⟨some ⟨wr.heap.size+1,0,none⟩,1,[bareT ⟨ym,yn,yv,⟨yA,yc,yl⟩⟩]⟩ rfl rfl HS1.out.o HR1.out (by simp [maxLen]; omega) (by simp; omega) (by have:=HS1.out.y.lt; omega) ?_)
             intro A1 c1 w3 hown hg hAA))
        have HS3:=Lib.hid (HS1.out.grow hown hg)
        clear hown hg hAA HR1 HS1 HXB
        go_roundw
        case rel=>exact ⟨k+1,A1,c1,out ++ [bareT ⟨ym,yn,yv,⟨yA,yc,yl⟩⟩],by omega,by simp,by go_num,HS3,HON⟩
        case measure=>simp [intOf]; omega
      · have hkl : k=l.length:=by omega
        have HO2 : Hid (out=l.map bareT):=Lib.hid (by rw [HO.out,hkl,List.take_length])
        clear HO hkl
        have hcall:=why_answers b (PT.mk o n u s xA xc xl) ⟨oA,oc,out⟩ wr (HBY.out.later HS.out.b) (HEX.out.later HS.out.b) ⟨(HS.out.o.rd TH.enc_k).mono (fun b hb=>hb.2),fun x hx=>by
          rw [HO2.out] at hx
          obtain ⟨y,hy,rfl⟩:=List.mem_map.1 hx
          exact ⟨(HL.out.all y hy).nm,Rd.nil _ _ _ _⟩⟩ (by simp only; rw [HO2.out,List.length_map]; exact h4) (fun x hx=>by
          simp only at hx
          rw [HO2.out] at hx
          obtain ⟨y,hy,rfl⟩:=List.mem_map.1 hx
          exact Nat.zero_le _)
        have hz : zW (nsT l)=List.replicate l.length 0:=by unfold zW; rw [show (nsT l).length=l.length by simp [nsT]]
        have hans : ansN (ansW b.lets.l (PT.mk o n u s xA xc xl) (l.map bareT)) [List.replicate l.length 0]=[⟨V.1,V.2,List.replicate l.length 0⟩]:=by
          rw [HVT.out,hz]
          simp only [ansN,List.map_cons,List.map_nil,ans_bare]
        unfold AnsP at hcall
        simp only [HO2.out,ns_bare,enumW_z,hans,HCS.out,PT.v,HEX0.out,List.length_map,List.length_cons,List.length_nil,Nat.zero_add] at hcall
        have HCA:=Lib.hid hcall
        clear hcall hz hans
        have hol : out.length=l.length:=by rw [HO2.out,List.length_map]
        have hhx:=HS.out.x
        have hhy:=HS.out.y
        have hez : ex.size=5:=by rw [← HEX0.out]; rfl
        go_wp2_with (first
          | (refine wpList_load_row rfl 29 (.tmp 3) rfl w.heap.size rfl 29 cs (0,0) _ hhx Tryz.underlying29 rfl (by rw [hsz]; kernel_rfl) ?_)
          | (refine wpList_load_row rfl 25 (.tmp 4) rfl (w.heap.size+1) rfl 25 ex (0,0) _ hhy Tryz.underlying25 rfl (by rw [hez]; kernel_rfl) ?_))
        refine HCA.out.mono ?_
        rintro r w2 ⟨hb2,A2,c2,rfl,hown⟩
        have HB2 : Hid (Below w.heap.size w w2):=Lib.hid (HS.out.b.trans (hb2.mono HS.out.b.size))
        obtain ⟨ga,_,hA,_,hcl⟩:=(hown.rd AN.enc_k).at1 (i:=0) (by simp)
        simp only at hA
        subst hA
        simp only [List.getElem_cons_zero,Nat.zero_mul,Nat.add_zero] at hcl
        clear hhx hhy hez HCA hb2 hown
        rename_i go9 _
        obtain ⟨h0,h1,h2',h3,h4',h5,h6,h7,h8,h9,h10⟩:=Cells.c11 hcl
        clear hcl
        go_wp2_with fail
        clear h0 h1 h2' h3 h4' h5 h6 h7 h8 h9 h10
        have HB3 : Hid (Below w.heap.size w (w2.alloc (.cells (⟨V.1,V.2,List.replicate l.length 0⟩ : AN).enc.toArray 64))):=Lib.hid (HB2.out.alloc HB2.out.size _)
        have hx:=Blk.new w2 64 (⟨V.1,V.2,List.replicate l.length 0⟩ : AN).enc.toArray
        simp only [AN.enc] at hx HB3
        obtain ⟨y0,y1, -⟩:=Blk.b11 hx
        clear hx
        refine wp_region_T (fun W=>(W.cell? ⟨w2.heap.size,0,none⟩=some (.bool V.1)∧W.cell? ⟨w2.heap.size,1,none⟩=some (.int .i64 V.2))) (fun _=>false) (by kernel_rfl) ⟨y0,y1⟩ (fun hHeld=>?_)
        refine qtq 0 ?_
        simp only [qsa,qsb,qsc]
        refine qtq 1 ?_
        simp only [qsa,qsb,qsc]
        refine qtq 2 ?_
        simp only [qsa,qsb,qsc]
        refine qtq 3 ?_
        simp only [qsa,qsb,qsc]
        refine qtq 4 ?_
        simp only [qsa,qsb,qsc]
        refine qtq 5 ?_
        simp only [qsa,qsb,qsc]
        clear hHeld
        refine wpAnyT_done (by kernel_rfl) ?_ _
        go_wp2_with fail
        try simp only [Exit.inBlock,Exit.then]
        refine bodyPost_ret (v:=.tuple #[.bool V.1,.int .i64 V.2]) ?_ rfl ⟨rfl,HB3.out.drew⟩
        simp [results,Tryz.results10,go_sem,]
theorem and_tab : ∀ a,a<16→∀ m,m<16→bits BinOp.and IntKind.i64 ((a : Nat) : Int) ((m : Nat) : Int)=((a &&& m : Nat) : Int):=by decide
theorem why_Why1 {a m : Nat} (ha : a<16) (hm : m<16) (g : Nat) (w : World) (hg : w.cell? ⟨g,0,none⟩=some (.int .i64 (m : Nat))) :
    Calls Tryz.prog 35 #[.int .i64 (a : Nat),.pointer (some ⟨g,0,none⟩)] w fun r w'=>r = .returned (.bool (a &&& m == 0))∧Below w.heap.size w w':=by
  have hand:=and_tab a ha m hm
  go_enter Tryz.func35,Tryz.ntmps35
  go_wp2_with fail
  go_ret
  exact ⟨ret_bool (by rw [Bool.eq_iff_iff]; simp),Below.refl _ _⟩
theorem idxI_1 (l : Sl Int) (p : Int→Bool) (g : Nat) (w : World) (hr : Rd (· < w.heap.size) 1 ienc w l) (hp : ∀ W x,x ∈ l.l→Below w.heap.size w W→Calls Tryz.prog 35 (#[.int .i64 x] ++ #[.pointer (some ⟨g,0,none⟩)]) W fun e w'=>e = .returned (.bool (p x))∧Below W.heap.size W w') :
    Calls Tryz.prog 58 #[.slice l.A l.l.length l.c,.func (.func 35) #[] #[.pointer (some ⟨g,0,none⟩)]] w fun e w'=>e = .returned (.int .i64 (idxP p 0 l.l))∧Below w.heap.size w w':=by
  obtain ⟨A,c,l⟩:=l
  have hn:=hr.len
  simp only at hn
  have HR:=Lib.hid hr
  clear hr
  simp only
  simp only at hp
  go_enter Tryz.func58,Tryz.ntmps58
  go_wp2_with fail
  go_loopw [5,8] (fun u i wr=>∃ (k : Nat),k≤l.length∧i = .int .i64 k∧Below w.heap.size w wr∧Hid (idxP p 0 l=idxP p k (l.drop k))) (fun _ i _=>l.length - (intOf i).toNat)
  case atStart=>exact ⟨0,by omega,rfl,qbl,Lib.hid (by simp)⟩
  case round =>
    obtain ⟨k,hk,rfl,hbel,HG⟩:=hrel
    have hhe : w.heap.size≤wr.heap.size:=hbel.size
    by_cases hlt : k<l.length
    · obtain ⟨b,o,rfl,hb,hcl⟩:=HR.out.at1 hlt
      have hcl2:=hcl.keep (hbel.block b hb)
      have hd : l.drop k=l[k] :: l.drop (k+1):=List.drop_eq_getElem_cons hlt
      have hgo:=HG.out
      rw [hd] at hgo
      have HGO:=Lib.hid hgo
      have hcall:=hp wr l[k] (List.getElem_mem hlt) hbel
      clear hd hgo hcl HG hp
      generalize l[k]=x at *
      obtain ⟨bq,hb0⟩ : ∃ bq,p x=bq:=⟨_,rfl⟩
      rw [hb0] at hcall
      have HB0:=Lib.hid hb0
      clear hb0
      have g0 : wr.cell? ⟨b,o+k,none⟩=some (.int .i64 x):=by simpa [ienc] using hcl2 0 _ rfl
      clear hcl2
      rcases bq
      · go_wp2_with fail
        refine hcall.mono ?_
        clear hcall
        rintro e w1 ⟨rfl,hb1⟩
        have hB1 : Below w.heap.size w w1:=qbv
        clear hb1
        go_wp2_with fail
        go_roundw
        case rel=>exact ⟨k+1,by omega,by go_num,hB1,Lib.hid (by rw [HGO.out,idxP,HB0.out]; rfl)⟩
        case measure=>simp [intOf]; omega
      · go_wp2_with fail
        refine hcall.mono ?_
        clear hcall
        rintro e w1 ⟨rfl,hb1⟩
        have hB1 : Below w.heap.size w w1:=qbv
        clear hb1
        go_wp2_with fail
        go_ret
        exact ⟨ret_int (by rw [HGO.out,idxP,HB0.out]; rfl),hB1⟩
    · have hkl : l.drop k=[]:=List.drop_eq_nil_of_le (by omega)
      have hgo:=HG.out
      rw [hkl] at hgo
      have HGO:=Lib.hid hgo
      clear hkl hgo HG
      go_wp2_with fail
      go_ret
      exact ⟨ret_int (by rw [HGO.out]; rfl),hbel⟩
theorem hasI_1 (l : Sl Int) (p : Int→Bool) (g : Nat) (w : World) (hr : Rd (· < w.heap.size) 1 ienc w l) (hp : ∀ W x,x ∈ l.l→Below w.heap.size w W→Calls Tryz.prog 35 (#[.int .i64 x] ++ #[.pointer (some ⟨g,0,none⟩)]) W fun e w'=>e = .returned (.bool (p x))∧Below W.heap.size W w') :
    Calls Tryz.prog 34 #[.slice l.A l.l.length l.c,.func (.func 35) #[] #[.pointer (some ⟨g,0,none⟩)]] w fun e w'=>e = .returned (.bool (l.l.any p))∧Below w.heap.size w w':=by
  have hcon:=idxI_1 l p g w hr hp
  clear hp hr
  rcases idxP_ge p l.l 0 with ⟨h1,h2⟩ | ⟨j,x,h1,h2,h3,h4⟩
  · rw [h1] at hcon
    have HV:=Lib.hid (show false=l.l.any p from (List.any_eq_false.2 (fun x hx=>by simpa using h2 x hx)).symm)
    clear h1 h2
    go_enter Tryz.func34,Tryz.ntmps34
    go_wp2_with fail
    refine hcon.mono ?_
    clear hcon
    rintro e w1 ⟨rfl,hb1⟩
    go_wp2_with fail
    go_ret
    exact ⟨ret_bool HV.out,hb1⟩
  · rw [h1] at hcon
    have HV:=Lib.hid (show true=l.l.any p from (List.any_eq_true.2 ⟨x,List.mem_of_getElem? h2,h3⟩).symm)
    clear h1 h2 h3 h4
    go_enter Tryz.func34,Tryz.ntmps34
    go_wp2_with fail
    refine hcon.mono ?_
    clear hcon
    rintro e w1 ⟨rfl,hb1⟩
    go_wp2_with fail
    go_ret
    exact ⟨ret_bool HV.out,hb1⟩
theorem bitL_up {n m : Nat} (h : m<2 ^ n) : ∀ d,bitL (n+d) m=bitL n m
  | 0=>rfl
  | d+1=>by
    rw [← Nat.add_assoc,bitL_succ,bitL_up h d,Nat.testBit_lt_two_pow (Nat.lt_of_lt_of_le h (Nat.pow_le_pow_right (by omega) (by omega)))]
    simp
theorem bitL_4 {n m : Nat} (hn : n≤4) (h : m<2 ^ n) : bitL 4 m=bitL n m:=by
  have:=bitL_up h (4 - n)
  rwa [show n+(4 - n)=4 by omega] at this
theorem pow_16 {n : Nat} (hn : n≤4) : 2 ^ n≤16:=Nat.pow_le_pow_right (by omega : 0<2) hn
theorem wrap_pow {n : Nat} (hn : n≤4) : IntKind.i64.wrap (2 ^ n)=((2 ^ n : Nat) : Int):=by
  match n,hn with
  | 0,_=>rfl
  | 1,_=>rfl
  | 2,_=>rfl
  | 3,_=>rfl
  | 4,_=>rfl
theorem ord_bt {n a b : Nat} (hn : n≤4) (ha : a<2 ^ n) (hb : b<2 ^ n) (ns : List Nat) (hl : ns.length=n) : (ordV a b<0)↔btB ns a b=true:=by
  rw [ordV_lt,bitL_4 hn ha,bitL_4 hn hb]
  unfold btB
  rw [hl]
def tnK (ns : List Nat) (F : List Nat→Bool × Int) (ws : List (List Nat)) (k : Nat) : List Int:=intL (((ws.take k).filter (tnB ns F)).map maskW)
theorem tnK_succ {ns : List Nat} {F : List Nat→Bool × Int} {ws : List (List Nat)} {k : Nat} {x : List Nat} (h : ws[k]? = some x) : tnK ns F ws (k+1)=if tnB ns F x=true then tnK ns F ws k ++ [((maskW x : Nat) : Int)] else tnK ns F ws k:=by
  unfold tnK
  rw [List.take_add_one,h]
  simp only [Option.toList,List.filter_append,List.map_append]
  rcases hb : tnB ns F x with _ | _
  · simp [hb,intL]
  · simp [hb,intL]
theorem tnK_len (ns : List Nat) (F : List Nat→Bool × Int) (ws : List (List Nat)) (k : Nat) : (tnK ns F ws k).length≤ws.length:=by
  unfold tnK
  rw [intL_len,List.length_map]
  refine Nat.le_trans (List.length_filter_le _ _) ?_
  rw [List.length_take]; omega
theorem tnK_all (ns : List Nat) (F : List Nat→Bool × Int) : tnK ns F (enumW ns) (enumW ns).length=intL (tnL ns F):=by
  unfold tnK tnL
  rw [List.take_length]
theorem has_zero (l : List Nat) : decide ((0 : Int) ∈ intL l)=l.contains 0:=by
  rw [Bool.eq_iff_iff,decide_eq_true_iff,List.contains_iff_mem]
  unfold intL
  rw [List.mem_map]
  constructor
  · rintro ⟨x,hx,h⟩
    have : x=0:=by omega
    rw [← this]; exact hx
  · intro h; exact ⟨0,h,rfl⟩
theorem any_int (l : List Nat) (m : Nat) : (intL l).any (fun x=>x.toNat &&& m == 0)=l.any (fun c=>c &&& m == 0):=by
  unfold intL
  rw [List.any_map]
  rfl
theorem mask_16 {ns w : List Nat} (h : w ∈ enumW ns) (hn : ns.length≤4) : maskW w<16:=by
  have h1:=maskW_lt w
  have h2:=((mem_enumW _ _).1 h).1
  have h3:=pow_16 (show w.length≤4 by omega)
  omega
def WhyV (L : List LT) (e : PT) (l : List TH) : List Nat × Int:=if (HolV L e l).2≠0 then ([],(HolV L e l).2) else (whyL (nsT l) (ansW L e l),0)
def WhyP (w w' : World) (v : List Nat × Int) (r : Ending) : Prop:=Below w.heap.size w w'∧∃ (A : Option Addr) (c : Nat),r = .returned (.tuple #[.slice A (intL v.1).length c,.int .i64 v.2])∧Own w.heap.size 3 1 ienc w' ⟨A,c,intL v.1⟩
end Go.Proofs.YtmomlipmpgcheaaGreatDoor
