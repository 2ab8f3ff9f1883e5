/- The levels of what is read; walk of syntax.levels. -/
import Derived.Test.YtcgocdhhneckhaaGreatDoorEvbxbf
set_option linter.unusedSimpArgs false
set_option linter.unusedVariables false
set_option maxRecDepth 100000
set_option maxHeartbeats 6400000
namespace Go.Proofs.YtcgocdhhneckhaaGreatDoor
open Go.RowKit
def LevB (tg : Tg) (l : List TK) (x : PS × Int) (r : List TK) : Prop:=r.length≤l.length∧levL x.1+r.length≤l.length+(match tg with | .loop _ _ e=>levL e | _=>0)
theorem bind_ok {α β : Type} {p : PX α} {f : α→List TK→PX β} {y : β} {r : List TK} (h : p.bind f = .ok y r) : ∃ x q,p = .ok x q∧f x q = .ok y r:=by
 cases p with
 | ok x q=>exact ⟨x,q,rfl,h⟩
 | stop p e=>cases h
theorem tl_len {s : ByteArray} {l : List TK} (h : isT s l=true) : l.tail.length+1=l.length:=by
 cases l with
 | nil=>cases h
 | cons x l=>simp
theorem want_len {s : ByteArray} {l r : List TK} {u : Unit} (h : wantT s l = .ok u r) : r.length+1=l.length:=by
 unfold wantT at h;split at h
 ·rename_i hs;injection h with _ h;rw [← h];exact tl_len hs
 ·cases h
theorem name_len {l r : List TK} {s : ByteArray} (h : nameT l = .ok s r) : r.length+1=l.length:=by
 unfold nameT at h;split at h
 ·rename_i hs;injection h with _ h;rw [← h];cases l with
  | nil=>cases hs
  | cons x l=>simp
 ·cases h
theorem unit_len (l : List TK) : (unitT l).2.length≤l.length:=by
 unfold unitT;split
 ·simp
 ·split
  ·simp
  ·exact Nat.le_refl _
theorem lev_leaf (o n u : Int) (s : ByteArray) : levL (.mk o n u s [])=1:=by rw [levL_mk]; rfl
theorem lev_one (o n u : Int) (s : ByteArray) (a : PS) : levL (.mk o n u s [a])=levL a+1:=by rw [levL_mk]; simp [maxL]
theorem lev_two (o n u : Int) (s : ByteArray) (a b : PS) : levL (.mk o n u s [a,b])=max (levL a) (levL b)+1:=by rw [levL_mk]; simp [maxL]
theorem lev_three (o n u : Int) (s : ByteArray) (a b c : PS) : levL (.mk o n u s [a,b,c])=max (levL a) (max (levL b) (levL c))+1:=by rw [levL_mk]; simp [maxL]
theorem pR_lev : ∀ (f : Nat) (tg : Tg) (l : List TK) (x : PS × Int) (r : List TK),pR f tg l = .ok x r→LevB tg l x r
 | 0,tg,l,x,r,h=>by rw [pR] at h; cases h
 | f+1,.exp form,l,x,r,h=>by
  rw [pR] at h;obtain ⟨y,q,h1,h2⟩:=bind_ok h;have a1:=pR_lev f _ _ _ _ h1;have a2:=pR_lev f _ _ _ _ h2;unfold LevB at *;simp only at *;omega
 | f+1,.pre form,l,x,r,h=>by
  rw [pR] at h;split at h
  ·rename_i hc;have hl:=tl_len hc.2;obtain ⟨y,q,h1,h2⟩:=bind_ok h;obtain ⟨_,q2,h3,h4⟩:=bind_ok h2;obtain ⟨z,q3,h5,h6⟩:=bind_ok h4;obtain ⟨_,q4,h7,h8⟩:=bind_ok h6;obtain ⟨v,q5,h9,h10⟩:=bind_ok h8;injection h10 with h11 h12;subst h11 h12;have a1:=pR_lev f _ _ _ _ h1;have a2:=want_len h3;have a3:=pR_lev f _ _ _ _ h5;have a4:=want_len h7;have a5:=pR_lev f _ _ _ _ h9;unfold LevB at *;simp only [lev_three] at *;omega
  ·split at h
   ·rename_i hc;have hl:=tl_len hc.2;obtain ⟨y,q,h1,h2⟩:=bind_ok h;injection h2 with h11 h12;subst h11 h12;have a1:=pR_lev f _ _ _ _ h1;unfold LevB at *;simp only [lev_one] at *;omega
   ·obtain ⟨y,q,h1,h2⟩:=bind_ok h;injection h2 with h11 h12;subst h11 h12;have a1:=pR_lev f _ _ _ _ h1;unfold LevB at *;simp only at *;omega
 | f+1,.prim,[],x,r,h=>by rw [pR] at h; cases h
 | f+1,.prim,t :: l,x,r,h=>by
  rw [pR] at h;split at h
  ·injection h with h11 h12;subst h11 h12;have:=unit_len l;unfold LevB;simp only [lev_leaf,List.length_cons];omega
  split at h
  ·injection h with h11 h12;subst h11 h12;unfold LevB;simp only [lev_leaf,List.length_cons,List.tail_cons];omega
  split at h
  ·injection h with h11 h12;subst h11 h12;unfold LevB;simp only [lev_leaf,List.length_cons,List.tail_cons];omega
  split at h
  ·obtain ⟨y,q,h1,h2⟩:=bind_ok h;injection h2 with h11 h12;subst h11 h12;have:=name_len h1;unfold LevB;simp only [lev_leaf,List.length_cons,List.tail_cons] at *;omega
  split at h
  ·obtain ⟨y,q,h1,h2⟩:=bind_ok h;injection h2 with h11 h12;subst h11 h12;have:=name_len h1;unfold LevB;simp only [lev_leaf,List.length_cons,List.tail_cons] at *;omega
  split at h
  ·obtain ⟨_,q,h1,h2⟩:=bind_ok h;obtain ⟨y,q2,h3,h4⟩:=bind_ok h2;obtain ⟨_,q3,h5,h6⟩:=bind_ok h4;obtain ⟨z,q4,h7,h8⟩:=bind_ok h6;obtain ⟨_,q5,h9,h10⟩:=bind_ok h8;injection h10 with h11 h12;subst h11 h12;have a1:=want_len h1;have a2:=pR_lev f _ _ _ _ h3;have a3:=want_len h5;have a4:=pR_lev f _ _ _ _ h7;have a5:=want_len h9;unfold LevB at *;simp only [lev_two,List.length_cons,List.tail_cons] at *;omega
  split at h
  ·obtain ⟨y,q,h1,h2⟩:=bind_ok h;obtain ⟨_,q2,h3,h4⟩:=bind_ok h2;injection h4 with h11 h12;subst h11 h12;have a1:=pR_lev f _ _ _ _ h1;have a2:=want_len h3;unfold LevB at *;simp only [List.length_cons,List.tail_cons] at *;omega
  ·obtain ⟨y,q,h1,h2⟩:=bind_ok h;injection h2 with h11 h12;subst h11 h12;have:=name_len h1;unfold LevB;simp only [lev_leaf] at *;omega
 | f+1,.loop form own e,l,x,r,h=>by
  rw [pR] at h;split at h
  ·injection h with h11 h12;subst h11 h12;unfold LevB;simp only;omega
  ·rename_i op fm ho;split at h
   ·injection h with h11 h12;subst h11 h12;unfold LevB;simp only;omega
   ·obtain ⟨y,q,h1,h2⟩:=bind_ok h
    have hl : l.tail.length+1=l.length:=by
     cases l with
     | nil=>cases ho
     | cons t l=>simp
    have a1:=pR_lev f _ _ _ _ h1;have a2:=pR_lev f _ _ _ _ h2;unfold LevB at *;simp only [lev_two] at *;omega
theorem maxL_snoc : ∀ (l : List Nat) (x : Nat),maxL (l ++ [x])=max (maxL l) x
 | [],x=>by simp [maxL]
 | a :: l,x=>by simp only [List.cons_append,maxL,maxL_snoc l x]; omega
theorem maxL_left : ∀ (l m : List Nat),maxL l≤maxL (l ++ m)
 | [],_=>Nat.zero_le _
 | a :: l,m=>by simp only [List.cons_append,maxL]; have:=maxL_left l m; omega
theorem maxL_le {l : List Nat} {x : Nat} (h : x ∈ l) : x≤maxL l:=by
 induction l with
 | nil=>cases h
 | cons a l ih =>
  unfold maxL;rcases List.mem_cons.1 h with rfl | h
  ·omega
  ·have:=ih h; omega
theorem syn_levels {w : World} {t : PT} (h : PT.At (· < w.heap.size) w t) : ∀ W,Below w.heap.size w W→levL (shp t)≤1000000→Calls Tryz.prog 114 #[t.v] W fun r w'=>r = .returned (.int .i64 (levL (shp t) : Nat))∧Below W.heap.size W w':=by
 induction h with
 | @mk o n u s A c l hs hr _ ih =>
  intro W hW hlev;(have hsh : levL (shp ⟨o,n,u,s,A,c,l⟩)=maxL (l.map fun x=>levL (shp x))+1:=by rw [shp_mk,levL_mk,List.map_map]; rfl);rw [hsh] at hlev ⊢;have hn:=hr.len;have HR:=Zh (fun W' (hb : Below w.heap.size w W')=>(hr.keep (fun b hb'=>hb.block b hb')).mono (fun b hb'=>Nat.lt_of_lt_of_le hb' hb.size));have HI:=Zh ih;have HW:=Zh hW;have HLV:=Zh hlev;simp only at hn;clear hs hr ih hW hsh hlev;simp only [PT.v];go_enter Tryz.func114,Tryz.ntmps114;go_wp2_with fail;go_loopw [3,9] (fun nv iv wr=>∃ (k : Nat),k≤l.length∧iv = .int .i64 k∧nv = .int .i64 (maxL ((l.take k).map fun x=>levL (shp x)) : Nat)∧Below W.heap.size W wr) (fun _ i _=>l.length - (intOf i).toNat)
  case atStart=>exact ⟨0,Nat.zero_le _,rfl,rfl,qbl⟩
  case round =>
   obtain ⟨k,hk,rfl,rfl,hbel⟩:=hrel;by_cases hlt : k<l.length
   ·have hbw:=HW.out.trans (hbel.mono HW.out.size);obtain ⟨b',o',hA,hb',hcl⟩:=(HR.out wr hbw).at1 hlt;simp only at hA;have hm:=List.getElem_mem hlt;have hmx : levL (shp l[k])≤maxL (l.map fun x=>levL (shp x)):=maxL_le (List.mem_map_of_mem (f:=fun x=>levL (shp x)) hm);have hlv:=HLV.out;have htk : l.take (k+1)=l.take k ++ [l[k]]:=List.take_succ_eq_append_getElem hlt;have hcall:=fun W' (hb : Below wr.heap.size wr W')=>HI.out l[k] hm W' (hbw.trans (hb.mono (by have:=HW.out.size; have:=hbel.size; omega))) Zo
    have hmk : maxL ((l.take k).map fun x=>levL (shp x))≤1000000:=by
     have : maxL ((l.take k).map fun x=>levL (shp x))≤maxL (l.map fun x=>levL (shp x)):=by
      (conv=>rhs; rw [← List.take_append_drop k l]);rw [List.map_append];exact maxL_left _ _
     omega
    (have hmn : maxL ((l.take (k+1)).map fun x=>levL (shp x))=max (maxL ((l.take k).map fun x=>levL (shp x))) (levL (shp l[k])):=by rw [htk,List.map_append]; exact maxL_snoc _ _);(have hxl : levL (shp l[k])≤1000000:=by omega);subst hA;generalize l[k]=x at *;obtain ⟨xo,xn,xu,xs,xA,xc,xl⟩:=x;obtain ⟨q0,q1,q2,q3,q4⟩:=Cells.c5 hcl;generalize levL (shp ⟨xo,xn,xu,xs,xA,xc,xl⟩)=lx at *;generalize maxL ((l.take k).map fun x=>levL (shp x))=mk at *;have HMN:=Zh hmn;have hca:=hcall (wr.alloc (.cells #[.int .i64 xo,.int .i64 xn,.int .i64 xu,.string xs,.slice xA xl.length xc] 25)) (Zz.alloc Zl _);simp only [PT.v] at hca;clear hcl hm hmx hlv htk hcall hmn HLV HI HR;go_wp2_with fail;refine hca.mono ?_;clear hca;rintro r w2 ⟨rfl,hb2⟩;have HB2 : Hid (Below W.heap.size W w2):=Zh (hbel.trans ((below_via hb2 ((Below.refl wr.heap.size wr).alloc Zl _)).mono hbel.size));clear hb2 q0 q1 q2 q3 q4;by_cases hc : (mk : Int)<(lx : Int)
    ·go_wp2_with fail;go_roundw
     case rel=>exact ⟨k+1,by omega,by go_num,by rw [HMN.out,Nat.max_eq_right Zo],HB2.out⟩
     case measure=>simp [intOf]; omega
    ·go_wp2_with fail;go_roundw
     case rel=>exact ⟨k+1,by omega,by go_num,by rw [HMN.out,Nat.max_eq_left Zo],HB2.out⟩
     case measure=>simp [intOf]; omega
   ·(obtain rfl : k=l.length:=by omega);have hml:=HLV.out;(have hwr : IntKind.i64.wrap (((maxL (l.map fun x=>levL (shp x)) : Nat) : Int)+1)=((maxL (l.map fun x=>levL (shp x))+1 : Nat) : Int):=by rw [IntKind.wrap_i64]; omega);rw [List.take_length];generalize hmk0 : maxL (l.map fun x=>levL (shp x))=mk at *;have HMK:=Zh hmk0;clear HI HR HLV hml hmk0;go_wp2_with fail;go_ret;exact ⟨ret_int (by rw [HMK.out]; omega),hbel⟩
def stopV (p e : Int) : Value:=.iface 171 (.agg #[.int .i64 p,.int .i64 e])
theorem caught_idle (p q : Value) (w : World) : Calls Tryz.prog 110 #[.nilIface,p,q] w fun r w'=>r = .returned (.bool false)∧Below w.heap.size w w':=by
 (have hta : ∀ (w : World),(Instr.typeAssert Value.nilIface 20 171 true).run Tryz.prog w = .ok (.tuple #[.agg #[.int .i64 0,.int .i64 0],.bool false]) w:=fun _=>by kernel_rfl);go_enter Tryz.func110,Tryz.ntmps110;go_wp2_with fail;go_ret;exact ⟨rfl,qbl⟩
theorem caught_stop (p q : Nat) (hpq : p≠q) (B : Nat) (hBp : B≤p) (hBq : B≤q) (ps en : Int) (w : World) (hB : B≤w.heap.size) (x y : Value) (hp : Blk w p 3 #[x]) (hq : Blk w q 37 #[y]) : Calls Tryz.prog 110 #[stopV ps en,.pointer (some ⟨p,0,none⟩),.pointer (some ⟨q,0,none⟩)] w fun r w'=>r = .returned (.bool true)∧Blk w' p 3 #[.int .i64 ps]∧Blk w' q 37 #[.int .i64 en]∧(∀ b,b<w.heap.size→b≠p→b≠q→w'.heap[b]? = w.heap[b]?)∧Below B w w':=by
 unfold stopV;(have hta : ∀ (w : World),(Instr.typeAssert (Value.iface 171 (.agg #[.int .i64 ps,.int .i64 en])) 20 171 true).run Tryz.prog w = .ok (.tuple #[.agg #[.int .i64 ps,.int .i64 en],.bool true]) w:=fun _=>by kernel_rfl);have HP:=Zh hp;have HQ:=Zh hq;have hpz:=hp.lt;have hqz:=hq.lt;clear hp hq;go_enter Tryz.func110,Tryz.ntmps110;go_wp2_with fail;have HX : Hid (Blk (w.alloc (.cells #[.int .i64 ps,.int .i64 en] 171)).drew w.heap.size 171 #[.int .i64 ps,.int .i64 en]):=Zh ((Blk.new _ _ _).drew);have HP2:=Zh ((HP.out.alloc (.cells #[.int .i64 ps,.int .i64 en] 171)).drew);have HQ2:=Zh ((HQ.out.alloc (.cells #[.int .i64 ps,.int .i64 en] 171)).drew);have HB2 : Hid (Below B w (w.alloc (.cells #[.int .i64 ps,.int .i64 en] 171)).drew):=Zh (((Below.refl B w).alloc hB _).drew);(have hnp : w.heap.size≠p:=by omega);have HKE : Hid (∀ b,b<w.heap.size→(w.alloc (.cells #[.int .i64 ps,.int .i64 en] 171)).drew.heap[b]? = w.heap[b]?):=Zh (((Below.refl w.heap.size w).alloc Zl _).drew.block);have hs0 : (w.alloc (.cells #[.int .i64 ps,.int .i64 en] 171)).cell? ⟨w.heap.size,0,none⟩=some (.int .i64 ps)∧(w.alloc (.cells #[.int .i64 ps,.int .i64 en] 171)).cell? ⟨w.heap.size,1,none⟩=some (.int .i64 en):=⟨(Blk.new _ _ _).cell 0,(Blk.new _ _ _).cell 1⟩;clear HP HQ;refine wp_region_T (fun W=>W.cell? ⟨w.heap.size,0,none⟩=some (.int .i64 ps)∧W.cell? ⟨w.heap.size,1,none⟩=some (.int .i64 en)) (fun i=>8≤i) Zy hs0 (fun hHeld=>?_);refine Zr 0 ?_;refine Zr 1 ?_;refine Zr 2 ?_;refine Zr 3 ?_;refine Zr 4 ?_;refine Zr 5 ?_;refine Zr 6 ?_;clear hHeld;clear hs0;generalize (w.alloc (.cells #[.int .i64 ps,.int .i64 en] 171)).drew=w1 at *;obtain ⟨p0,pf,pz⟩:=HP2.out.b1;obtain ⟨q0,qf,qz⟩:=HQ2.out.b1;refine Zn 7 ?_;go_wp2_with fail;have hs1:=And.intro ((HX.out.far (p:=⟨p,0,none⟩) hnp (.int .i64 ps)).cell 0) ((HX.out.far (p:=⟨p,0,none⟩) hnp (.int .i64 ps)).cell 1);refine Zi (hs1) ?_;clear hs1;refine Zn 8 ?_;go_wp2_with fail;(try simp only [QT]);(try (with_reducible refine And.intro (fun h=>by simp at h) ?_));refine Zn 9 ?_;go_wp2_with fail;(try simp only [QT]);(try (with_reducible refine And.intro (fun h=>by simp at h) ?_));refine Ze ?_;go_wp2_with fail;go_ret;refine ⟨rfl, ?_, ?_,fun b hb h1 h2=>?_,(HB2.out.setCell hBp _).setCell hBq _⟩
 ·exact (by simpa using ((HP2.out.set_ 0 (.int .i64 ps)).far hpq (.int .i64 en)))
 ·exact (by simpa using ((HQ2.out.far (Ne.symm hpq) (.int .i64 ps)).set_ 0 (.int .i64 en)))
 ·exact ((Below.heap_setCell _ _ _ b h2).trans (Below.heap_setCell _ _ _ b h1)).trans (HKE.out b hb)
def ZX : Array Value:=#[.int .i64 0,.int .i64 0,.int .i64 0,.string ⟨#[]⟩,.slice none 0 0]
theorem pe_idle (p q r : Addr) (w : World) : CallsD Tryz.prog 109 #[.pointer (some p),.pointer (some q),.pointer (some r)] .returning w fun e u' w'=>e = .returned (.tuple #[])∧u' = .returning∧Below w.heap.size w w':=by
 refine callsD_of_wpS Tryz.func109 rfl fun c₀ cs hu=>?_;apply wpS_seq;apply wpS_region;simp [wpOpsS,go_sem,recoverD,hu,Tryz.ntmps109,Exit.thenS];refine (caught_idle _ _ _).mono ?_;rintro e w1 ⟨rfl,hb1⟩;refine wpS_of_wp ?_;generalize htm : (#[Value.pointer (some p),Value.pointer (some q),Value.pointer (some r)] ++ ((Array.replicate 3 undef).setIfInBounds 0 Value.nilIface).setIfInBounds 1 (Value.bool false))=tm;(have htm2 : tm = #[.pointer (some p),.pointer (some q),.pointer (some r),.nilIface,.bool false,undef]:=by rw [← htm]; rfl);subst htm2;clear htm;go_wp2_with fail;exact ⟨rfl,.returning,by rw [← hu],_,by simp [results,Tryz.results109,go_sem],rfl,rfl,hb1⟩
theorem pe_catch (p q r : Nat) (hpq : p≠q) (hpr : p≠r) (hqr : q≠r) (B : Nat) (hBp : B≤p) (hBq : B≤q) (hBr : B≤r) (ps en : Int) (older : List PanicEntry) (w : World) (hB : B≤w.heap.size) (x y z0 z1 z2 z3 z4 : Value) (hp : Blk w p 3 #[x]) (hq : Blk w q 37 #[y]) (hr : Blk w r 25 #[z0,z1,z2,z3,z4]) : CallsD Tryz.prog 109 #[.pointer (some ⟨p,0,none⟩),.pointer (some ⟨q,0,none⟩),.pointer (some ⟨r,0,none⟩)] (.panicking ({ v:=stopV ps en,recovered:=false } :: older)) w fun e u' w' =>
 e = .returned (.tuple #[])∧u' = .panicking ({ v:=stopV ps en,recovered:=true } :: older)∧Blk w' p 3 #[.int .i64 ps]∧Blk w' q 37 #[.int .i64 en]∧Blk w' r 25 #[.int .i64 0,.int .i64 0,.int .i64 0,.string ⟨#[]⟩,.slice none 0 0]∧Below B w w':=by
 refine callsD_of_wpS Tryz.func109 rfl fun c₀ cs hu=>?_
 apply wpS_seq
 apply wpS_region
 simp [wpOpsS,go_sem,recoverD,hu,Tryz.ntmps109,Exit.thenS]
 refine (caught_stop p q hpq B hBp hBq ps en w hB x y hp hq).mono ?_
 rintro e w1 ⟨rfl,hp1,hq1,hk1,hb1⟩
 have HR1 : Hid (Blk w1 r 25 #[z0,z1,z2,z3,z4]):=Zh ((hk1 r hr.lt (Ne.symm hpr) (Ne.symm hqr)).trans hr)
 have HP1:=Zh hp1
 have HQ1:=Zh hq1
 have HB1:=Zh hb1
 clear hp hq hr hp1 hq1 hk1 hb1
 refine wpS_of_wp ?_
 generalize htm : (#[Value.pointer (some ⟨p,0,none⟩),Value.pointer (some ⟨q,0,none⟩),Value.pointer (some ⟨r,0,none⟩)] ++ ((Array.replicate 3 undef).setIfInBounds 0 (stopV ps en)).setIfInBounds 1 (Value.bool true))=tm
 have htm2 : tm = #[.pointer (some ⟨p,0,none⟩),.pointer (some ⟨q,0,none⟩),.pointer (some ⟨r,0,none⟩),stopV ps en,.bool true,undef]:=by rw [← htm]; rfl
 subst htm2
 clear htm
 obtain ⟨r0,r1,r2,r3,r4,rf,rz⟩:=HR1.out.b5
 go_wp2_with fail
 refine ⟨rfl,_,rfl,_,by simp [results,Tryz.results109,go_sem],rfl,rfl, ?_, ?_, ?_, ?_⟩
 ·exact Blk.far (Blk.far (Blk.far (Blk.far (Blk.far HP1.out hpr _) hpr _) hpr _) hpr _) hpr _
 ·exact Blk.far (Blk.far (Blk.far (Blk.far (Blk.far HQ1.out hqr _) hqr _) hqr _) hqr _) hqr _
 ·exact (by simpa using ((((HR1.out.set_ 0 (.int .i64 0)).set_ 1 (.int .i64 0)).set_ 2 (.int .i64 0)).set_ 3 (.string ⟨#[]⟩)).set_ 4 (.slice none 0 0))
 ·exact ((((HB1.out.setCell hBr _).setCell hBr _).setCell hBr _).setCell hBr _).setCell hBr _
end Go.Proofs.YtcgocdhhneckhaaGreatDoor
