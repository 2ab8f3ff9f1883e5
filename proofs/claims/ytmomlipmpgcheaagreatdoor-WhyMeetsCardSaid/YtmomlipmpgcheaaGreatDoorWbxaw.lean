/- Things and answers in memory (package why). -/
import Derived.Test.YtmomlipmpgcheaaGreatDoorWbxah
import Derived.Test.YtmomlipmpgcheaaGreatDoorWbxav
set_option linter.unusedSimpArgs false
set_option linter.unusedVariables false
set_option maxRecDepth 100000
set_option maxHeartbeats 6400000
namespace Go.Proofs.YtmomlipmpgcheaaGreatDoor
open Go.RowKit
theorem Cells.c4 {w : World} {b o : Nat} {x y z s : Value} (h : Cells w b o [x,y,z,s]) : w.cell? ⟨b,o,none⟩=some x∧w.cell? ⟨b,o+1,none⟩=some y∧w.cell? ⟨b,o+2,none⟩=some z∧w.cell? ⟨b,o+3,none⟩=some s:=⟨h 0 _ rfl,h 1 _ rfl,h 2 _ rfl,h 3 _ rfl⟩
structure TH where
  m : Bool
  nm : ByteArray
  v : Int
  o : Sl Int
def TH.enc (x : TH) : List Value:=[.bool x.m,.string x.nm,.int .i64 x.v,.slice x.o.A x.o.l.length x.o.c]
def TH.w : TH→Value | ⟨m,nm,v,oA,oc,ol⟩=>.agg #[.bool m,.string nm,.int .i64 v,.slice oA ol.length oc]
theorem TH.enc_k (x : TH) : x.enc.length=4:=rfl
theorem TH.enc_one (x : TH) : ∀ u ∈ x.enc,u.oneCell'=true:=by
  intro u hu
  simp only [TH.enc,List.mem_cons,List.not_mem_nil,or_false] at hu
  rcases hu with rfl | rfl | rfl | rfl <;> rfl
structure TH.At (F : Nat→Prop) (w : World) (x : TH) : Prop where
  nm : x.nm.size≤9223372036854775807
  o : Rd F 1 ienc w x.o
structure ThsAt (F : Nat→Prop) (w : World) (s : Sl TH) : Prop where
  rd : Rd F 4 TH.enc w s
  all : ∀ x,x ∈ s.l→TH.At F w x
theorem TH.At.keep {F G : Nat→Prop} {w w' : World} {e : TH} (h : TH.At F w e) (hk : ∀ b,F b→w'.heap[b]? = w.heap[b]?) (hFG : ∀ b,F b→G b) : TH.At G w' e:=⟨h.nm,(h.o.keep hk).mono hFG⟩
theorem ThsAt.keep {F G : Nat→Prop} {w w' : World} {s : Sl TH} (h : ThsAt F w s) (hk : ∀ b,F b→w'.heap[b]? = w.heap[b]?) (hFG : ∀ b,F b→G b) : ThsAt G w' s :=
  ⟨(h.rd.keep hk).mono hFG,fun x hx=>(h.all x hx).keep hk hFG⟩
theorem TH.At.later {w w' : World} {e : TH} (h : TH.At (· < w.heap.size) w e) (hb : Below w.heap.size w w') : TH.At (· < w'.heap.size) w' e :=
  h.keep (fun b hb'=>hb.block b hb') (fun b hb'=>Nat.lt_of_lt_of_le hb' hb.size)
theorem ThsAt.later {w w' : World} {s : Sl TH} (h : ThsAt (· < w.heap.size) w s) (hb : Below w.heap.size w w') : ThsAt (· < w'.heap.size) w' s :=
  h.keep (fun b hb'=>hb.block b hb') (fun b hb'=>Nat.lt_of_lt_of_le hb' hb.size)
theorem infoTH : Info Tryz.prog 61 (.agg #[.bool false,.string ByteArray.empty,.int .i64 0,.slice none 0 0]) 4 56:=info_mk (by kernel_rfl) rfl
theorem infoFactW : Info Tryz.prog 87 (.agg #[.string ByteArray.empty,.int .i64 0]) 2 24:=info_mk (by kernel_rfl) rfl
theorem rd_oneG {α : Type} {k : Nat} {enc : α→List Value} {W : World} {g : Nat} {t : TypeId} {x : α} (h : Blk W g t (enc x).toArray) : Rd (· < W.heap.size) k enc W ⟨some ⟨g,0,none⟩,1,[x]⟩ :=
  ⟨Nat.le_refl _,by unfold maxLen; simp,fun h=>by simp at h,fun i y hy=>by
    have hi : i=0:=by
      rcases i with _ | i
      · rfl
      · simp at hy
    subst hi
    have hxy : x=y:=by simpa using hy
    subst hxy
    exact ⟨g,0,rfl,h.lt,fun j u hu=>by
      rw [Nat.zero_mul,Nat.add_zero,Nat.zero_add,h.cell]
      simpa using hu⟩⟩
structure AN where
  is : Bool
  e : Int
  w : List Nat
def gw (w : List Nat) (i : Nat) : Int:=((w.getD i 0 : Nat) : Int)
def AN.enc (x : AN) : List Value:=[.bool x.is,.int .i64 x.e,.int .i64 (maskW x.w : Nat),.int .i64 (gw x.w 0),.int .i64 (gw x.w 1),.int .i64 (gw x.w 2),.int .i64 (gw x.w 3),.int .i64 (gw x.w 4),.int .i64 (gw x.w 5),.int .i64 (gw x.w 6),.int .i64 (gw x.w 7)]
theorem AN.enc_k (x : AN) : x.enc.length=11:=rfl
theorem AN.enc_one (x : AN) : ∀ u ∈ x.enc,u.oneCell'=true:=by
  intro u hu
  simp only [AN.enc,List.mem_cons,List.not_mem_nil,or_false] at hu
  rcases hu with rfl | rfl | rfl | rfl | rfl | rfl | rfl | rfl | rfl | rfl | rfl <;> rfl
theorem infoAN : Info Tryz.prog 64 (.agg #[.bool false,.int .i64 0,.int .i64 0,.int .i64 0,.int .i64 0,.int .i64 0,.int .i64 0,.int .i64 0,.int .i64 0,.int .i64 0,.int .i64 0]) 11 88:=info_mk (by kernel_rfl) rfl
theorem gw_z (w : List Nat) (i : Nat) : gw (w ++ [0]) i=gw w i:=by
  unfold gw
  congr 1
  rw [List.getD_eq_getElem?_getD,List.getD_eq_getElem?_getD]
  by_cases h : i<w.length
  · rw [List.getElem?_append_left h]
  · rw [List.getElem?_append_right (by omega),List.getElem?_eq_none (l:=w) (by omega)]
    rcases hk : i - w.length with _ | k
    · rfl
    · rfl
theorem maskW_or (w : List Nat) (k : Nat) : maskW (w ++ [k])=maskW w ||| (if k=0 then 0 else 1 <<< w.length):=by
  refine Nat.eq_of_testBit_eq fun i=>?_
  rw [Nat.testBit_or,maskW_bit,maskW_bit]
  rw [List.getD_eq_getElem?_getD,List.getD_eq_getElem?_getD]
  have hr : (if k=0 then 0 else 1 <<< w.length).testBit i=(decide (k≠0) && decide (w.length=i)):=by
    by_cases h : k=0
    · rw [if_pos h]; simp [h]
    · rw [if_neg h,Nat.shiftLeft_eq,Nat.one_mul,Nat.testBit_two_pow]; simp [h]
  rw [hr]
  rcases Nat.lt_trichotomy i w.length with h | h | h
  · rw [List.getElem?_append_left h,decide_eq_false (p:=w.length=i) (by omega)]; simp
  · subst h
    rw [List.getElem?_append_right (Nat.le_refl _),List.getElem?_eq_none (l:=w) (Nat.le_refl _),Nat.sub_self]
    simp
  · rw [List.getElem?_append_right (by omega),List.getElem?_eq_none (l:=w) (by omega),decide_eq_false (p:=w.length=i) (by omega),List.getElem?_eq_none (by simp; omega)]; simp
theorem maskW_z (w : List Nat) : maskW (w ++ [0])=maskW w:=by rw [maskW_or,if_pos rfl,Nat.or_zero]
theorem enc_z (b : Bool) (e : Int) (w : List Nat) : (⟨b,e,w ++ [0]⟩ : AN).enc=(⟨b,e,w⟩ : AN).enc:=by
  simp only [AN.enc,gw_z,maskW_z]
theorem gw_snoc (w : List Nat) (k i : Nat) : gw (w ++ [k]) i=if i=w.length then (k : Int) else gw w i:=by
  unfold gw
  rw [List.getD_eq_getElem?_getD,List.getD_eq_getElem?_getD]
  rcases Nat.lt_trichotomy i w.length with h | h | h
  · rw [List.getElem?_append_left h,if_neg (by omega)]
  · subst h
    rw [List.getElem?_append_right (Nat.le_refl _),Nat.sub_self,if_pos rfl]
    rfl
  · rw [if_neg (by omega),List.getElem?_eq_none (by simp; omega),List.getElem?_eq_none (by omega)]
theorem Cells.c11 {w : World} {b o : Nat} {x0 x1 x2 x3 x4 x5 x6 x7 x8 x9 x10 : Value} (h : Cells w b o [x0,x1,x2,x3,x4,x5,x6,x7,x8,x9,x10]) : w.cell? ⟨b,o,none⟩=some x0∧w.cell? ⟨b,o+1,none⟩=some x1∧w.cell? ⟨b,o+2,none⟩=some x2∧w.cell? ⟨b,o+3,none⟩=some x3∧w.cell? ⟨b,o+4,none⟩=some x4∧w.cell? ⟨b,o+5,none⟩=some x5∧w.cell? ⟨b,o+6,none⟩=some x6∧w.cell? ⟨b,o+7,none⟩=some x7∧w.cell? ⟨b,o+8,none⟩=some x8∧w.cell? ⟨b,o+9,none⟩=some x9∧w.cell? ⟨b,o+10,none⟩=some x10 :=
  ⟨h 0 _ rfl,h 1 _ rfl,h 2 _ rfl,h 3 _ rfl,h 4 _ rfl,h 5 _ rfl,h 6 _ rfl,h 7 _ rfl,h 8 _ rfl,h 9 _ rfl,h 10 _ rfl⟩
theorem Blk.b11 {w : World} {g : Nat} {t : TypeId} {x0 x1 x2 x3 x4 x5 x6 x7 x8 x9 x10 : Value} (h : Blk w g t #[x0,x1,x2,x3,x4,x5,x6,x7,x8,x9,x10]) : w.cell? ⟨g,0,none⟩=some x0∧w.cell? ⟨g,1,none⟩=some x1∧w.cell? ⟨g,2,none⟩=some x2∧w.cell? ⟨g,3,none⟩=some x3∧w.cell? ⟨g,4,none⟩=some x4∧w.cell? ⟨g,5,none⟩=some x5∧w.cell? ⟨g,6,none⟩=some x6∧w.cell? ⟨g,7,none⟩=some x7∧w.cell? ⟨g,8,none⟩=some x8∧w.cell? ⟨g,9,none⟩=some x9∧w.cell? ⟨g,10,none⟩=some x10∧(∀ o,w.frozen? ⟨g,o,none⟩=false)∧g<w.heap.size :=
  ⟨h.cell 0,h.cell 1,h.cell 2,h.cell 3,h.cell 4,h.cell 5,h.cell 6,h.cell 7,h.cell 8,h.cell 9,h.cell 10,h.frozen,h.lt⟩
def AN.v : AN→Value | ⟨is,e,w⟩=>.agg #[.bool is,.int .i64 e,.int .i64 (maskW w : Nat),.int .i64 (gw w 0),.int .i64 (gw w 1),.int .i64 (gw w 2),.int .i64 (gw w 3),.int .i64 (gw w 4),.int .i64 (gw w 5),.int .i64 (gw w 6),.int .i64 (gw w 7)]
theorem idxT_1 (l : Sl TH) (p : TH→Bool) (g : Nat) (w : World) (hr : Rd (· < w.heap.size) 4 TH.enc w l) (hp : ∀ W x,x ∈ l.l→Below w.heap.size w W→Calls Tryz.prog 48 (#[x.w] ++ #[.pointer (some ⟨g,0,none⟩)]) W fun e w'=>e = .returned (.bool (p x))∧Below W.heap.size W w') :
    Calls Tryz.prog 63 #[.slice l.A l.l.length l.c,.func (.func 48) #[] #[.pointer (some ⟨g,0,none⟩)]] w fun e w'=>e = .returned (.int .i64 (idxP p 0 l.l))∧Below w.heap.size w w':=by
  obtain ⟨A,c,l⟩:=l
  have hn:=hr.len
  simp only at hn
  have HR:=Lib.hid hr
  clear hr
  simp only
  simp only at hp
  go_enter Tryz.func63,Tryz.ntmps63
  go_wp2_with fail
  go_loopw [5,8] (fun u i wr=>∃ (k : Nat),k≤l.length∧i = .int .i64 k∧Below w.heap.size w wr∧Hid (idxP p 0 l=idxP p k (l.drop k))) (fun _ i _=>l.length - (intOf i).toNat)
  case atStart=>exact ⟨0,by omega,rfl,qbl,Lib.hid (by simp)⟩
  case round =>
    obtain ⟨k,hk,rfl,hbel,HG⟩:=hrel
    have hhe : w.heap.size≤wr.heap.size:=hbel.size
    by_cases hlt : k<l.length
    · obtain ⟨b,o,rfl,hb,hcl⟩:=HR.out.at1 hlt
      have hcl2:=hcl.keep (hbel.block b hb)
      have hd : l.drop k=l[k] :: l.drop (k+1):=List.drop_eq_getElem_cons hlt
      have hgo:=HG.out
      rw [hd] at hgo
      have HGO:=Lib.hid hgo
      have hcall:=hp wr l[k] (List.getElem_mem hlt) hbel
      clear hd hgo hcl HG hp
      generalize l[k]=x at *
      obtain ⟨bq,hb0⟩ : ∃ bq,p x=bq:=⟨_,rfl⟩
      rw [hb0] at hcall
      have HB0:=Lib.hid hb0
      clear hb0
      obtain ⟨xm,xn,xv,xA,xc,xl⟩:=x
      have gg:=hcl2.c4
      obtain ⟨g0,g1,g2,g3⟩:=gg
      simp only [TH.w] at hcall
      clear hcl2
      rcases bq
      · go_wp2_with fail
        refine hcall.mono ?_
        clear hcall
        rintro e w1 ⟨rfl,hb1⟩
        have hB1 : Below w.heap.size w w1:=qbv
        clear hb1
        go_wp2_with fail
        go_roundw
        case rel=>exact ⟨k+1,by omega,by go_num,hB1,Lib.hid (by rw [HGO.out,idxP,HB0.out]; rfl)⟩
        case measure=>simp [intOf]; omega
      · go_wp2_with fail
        refine hcall.mono ?_
        clear hcall
        rintro e w1 ⟨rfl,hb1⟩
        have hB1 : Below w.heap.size w w1:=qbv
        clear hb1
        go_wp2_with fail
        go_ret
        exact ⟨ret_int (by rw [HGO.out,idxP,HB0.out]; rfl),hB1⟩
    · have hkl : l.drop k=[]:=List.drop_eq_nil_of_le (by omega)
      have hgo:=HG.out
      rw [hkl] at hgo
      have HGO:=Lib.hid hgo
      clear hkl hgo HG
      go_wp2_with fail
      go_ret
      exact ⟨ret_int (by rw [HGO.out]; rfl),hbel⟩
theorem hasT_1 (l : Sl TH) (p : TH→Bool) (g : Nat) (w : World) (hr : Rd (· < w.heap.size) 4 TH.enc w l) (hp : ∀ W x,x ∈ l.l→Below w.heap.size w W→Calls Tryz.prog 48 (#[x.w] ++ #[.pointer (some ⟨g,0,none⟩)]) W fun e w'=>e = .returned (.bool (p x))∧Below W.heap.size W w') :
    Calls Tryz.prog 47 #[.slice l.A l.l.length l.c,.func (.func 48) #[] #[.pointer (some ⟨g,0,none⟩)]] w fun e w'=>e = .returned (.bool (l.l.any p))∧Below w.heap.size w w':=by
  have hcon:=idxT_1 l p g w hr hp
  clear hp hr
  rcases idxP_ge p l.l 0 with ⟨h1,h2⟩ | ⟨j,x,h1,h2,h3,h4⟩
  · rw [h1] at hcon
    have HV:=Lib.hid (show false=l.l.any p from (List.any_eq_false.2 (fun x hx=>by simpa using h2 x hx)).symm)
    clear h1 h2
    go_enter Tryz.func47,Tryz.ntmps47
    go_wp2_with fail
    refine hcon.mono ?_
    clear hcon
    rintro e w1 ⟨rfl,hb1⟩
    go_wp2_with fail
    go_ret
    exact ⟨ret_bool HV.out,hb1⟩
  · rw [h1] at hcon
    have HV:=Lib.hid (show true=l.l.any p from (List.any_eq_true.2 ⟨x,List.mem_of_getElem? h2,h3⟩).symm)
    clear h1 h2 h3 h4
    go_enter Tryz.func47,Tryz.ntmps47
    go_wp2_with fail
    refine hcon.mono ?_
    clear hcon
    rintro e w1 ⟨rfl,hb1⟩
    go_wp2_with fail
    go_ret
    exact ⟨ret_bool HV.out,hb1⟩
theorem idxA_1 (l : Sl AN) (p : AN→Bool) (g h : Nat) (w : World) (hr : Rd (· < w.heap.size) 11 AN.enc w l) (hp : ∀ W x,x ∈ l.l→Below w.heap.size w W→Calls Tryz.prog 40 (#[x.v] ++ #[.pointer (some ⟨g,0,none⟩),.pointer (some ⟨h,0,none⟩)]) W fun e w'=>e = .returned (.bool (p x))∧Below W.heap.size W w') :
    Calls Tryz.prog 60 #[.slice l.A l.l.length l.c,.func (.func 40) #[] #[.pointer (some ⟨g,0,none⟩),.pointer (some ⟨h,0,none⟩)]] w fun e w'=>e = .returned (.int .i64 (idxP p 0 l.l))∧Below w.heap.size w w':=by
  obtain ⟨A,c,l⟩:=l
  have hn:=hr.len
  simp only at hn
  have HR:=Lib.hid hr
  clear hr
  simp only
  simp only at hp
  go_enter Tryz.func60,Tryz.ntmps60
  go_wp2_with fail
  go_loopw [5,8] (fun u i wr=>∃ (k : Nat),k≤l.length∧i = .int .i64 k∧Below w.heap.size w wr∧Hid (idxP p 0 l=idxP p k (l.drop k))) (fun _ i _=>l.length - (intOf i).toNat)
  case atStart=>exact ⟨0,by omega,rfl,qbl,Lib.hid (by simp)⟩
  case round =>
    obtain ⟨k,hk,rfl,hbel,HG⟩:=hrel
    have hhe : w.heap.size≤wr.heap.size:=hbel.size
    by_cases hlt : k<l.length
    · obtain ⟨b,o,rfl,hb,hcl⟩:=HR.out.at1 hlt
      have hcl2:=hcl.keep (hbel.block b hb)
      have hd : l.drop k=l[k] :: l.drop (k+1):=List.drop_eq_getElem_cons hlt
      have hgo:=HG.out
      rw [hd] at hgo
      have HGO:=Lib.hid hgo
      have hcall:=hp wr l[k] (List.getElem_mem hlt) hbel
      clear hd hgo hcl HG hp
      generalize l[k]=x at *
      obtain ⟨bq,hb0⟩ : ∃ bq,p x=bq:=⟨_,rfl⟩
      rw [hb0] at hcall
      have HB0:=Lib.hid hb0
      clear hb0
      obtain ⟨xi,xe,xw⟩:=x
      have gg:=hcl2.c11
      obtain ⟨g0,g1,g2,g3,g4,g5,g6,g7,g8,g9,g10⟩:=gg
      simp only [AN.v] at hcall
      clear hcl2
      rcases bq
      · go_wp2_with fail
        refine hcall.mono ?_
        clear hcall
        rintro e w1 ⟨rfl,hb1⟩
        have hB1 : Below w.heap.size w w1:=qbv
        clear hb1
        go_wp2_with fail
        go_roundw
        case rel=>exact ⟨k+1,by omega,by go_num,hB1,Lib.hid (by rw [HGO.out,idxP,HB0.out]; rfl)⟩
        case measure=>simp [intOf]; omega
      · go_wp2_with fail
        refine hcall.mono ?_
        clear hcall
        rintro e w1 ⟨rfl,hb1⟩
        have hB1 : Below w.heap.size w w1:=qbv
        clear hb1
        go_wp2_with fail
        go_ret
        exact ⟨ret_int (by rw [HGO.out,idxP,HB0.out]; rfl),hB1⟩
    · have hkl : l.drop k=[]:=List.drop_eq_nil_of_le (by omega)
      have hgo:=HG.out
      rw [hkl] at hgo
      have HGO:=Lib.hid hgo
      clear hkl hgo HG
      go_wp2_with fail
      go_ret
      exact ⟨ret_int (by rw [HGO.out]; rfl),hbel⟩
def sameT (x y : TH) : Bool:=(y.m == x.m) && (y.nm.toList == x.nm.toList)
theorem why_Right1 (y x : TH) (g : Nat) (w : World) (hg : Blk w g 61 x.enc.toArray) :
    Calls Tryz.prog 48 #[y.w,.pointer (some ⟨g,0,none⟩)] w fun r w'=>r = .returned (.bool (sameT x y))∧Below w.heap.size w w':=by
  obtain ⟨ym,yn,yv,yA,yc,yl⟩:=y
  obtain ⟨xm,xn,xv,xA,xc,xl⟩:=x
  obtain ⟨g0,g1,g2,g3,gf,gz⟩:=Blk.b4 hg
  have hne : g≠w.heap.size:=by omega
  clear hg
  simp only [TH.w]
  go_enter Tryz.func48,Tryz.ntmps48
  have HS : Hid (sameT ⟨xm,xn,xv,xA,xc,xl⟩ ⟨ym,yn,yv,yA,yc,yl⟩=((ym == xm) && (yn.toList == xn.toList))):=Lib.hid rfl
  by_cases h : (ym == xm)=true
  · rw [h] at HS
    go_wp2_with fail
    go_ret
    exact ⟨ret_bool (by rw [HS.out]; simp),qbl⟩
  · replace h : (ym == xm)=false:=by simpa using h
    rw [h] at HS
    go_wp2_with fail
    go_ret
    exact ⟨ret_bool (by rw [HS.out]; simp),qbl⟩
theorem clone_an (s : Sl AN) (w : World) (hr : Rd (· < w.heap.size) 11 AN.enc w s) (hb : s.l.length * 88≤140737488355328) (hA : s.A≠none) :
    Calls Tryz.prog 53 #[.slice s.A s.l.length s.c] w fun e w'=>∃ A c,e = .returned (.slice A s.l.length c)∧Own w.heap.size 64 11 AN.enc w' ⟨A,c,s.l⟩∧Below w.heap.size w w':=by
  obtain ⟨A,c,l⟩:=s
  have hcap:=hr.cap
  have hlc:=hr.lecap
  simp only at hcap hlc hb
  rcases A with _ | ad
  · exact absurd rfl hA
  · have HR:=Lib.hid hr
    clear hr hA
    have hnil:=fun W=>Lib.run_eql_slice_nil (P:=Tryz.prog) W 65 64 (some ad) l.length c 0 0 Tryz.underlying65
    go_enter Tryz.func53,Tryz.ntmps53
    go_wp2_with (at_builtin
                 go_must (refine wpl_append_sl _ rfl (.tmp 5) (.tmp 6) _ rfl Tryz.underlying65 infoAN (by omega) AN.enc_k AN.enc_one ⟨some ⟨w.heap.size,0,none⟩,0,[]⟩ ⟨some ad,c,l⟩ rfl rfl (Own.lit w #[] [] (Nat.le_refl _) (Nat.zero_le _) rfl AN.enc_k) (HR.out.lt_alloc _) (by simp [maxLen]; omega) (by simp; omega) (by simp) ?_)
                 intro A' c' w1 hown hg _)
    go_ret
    exact ⟨A',c',rfl,hown,((Below.refl _ _).alloc (Nat.le_refl _) _).grown hg (by simp) (by simp [Value.ownBlock])⟩
end Go.Proofs.YtmomlipmpgcheaaGreatDoor
