/- Walks of package change: Right. -/
import Derived.Test.YtpbdjpfbhicmdaaGreatDoorCbxbm
import Derived.ArgAppend
set_option linter.unusedSimpArgs false
set_option linter.unusedVariables false
set_option maxRecDepth 100000
set_option maxHeartbeats 6400000
namespace Go.Proofs.YtpbdjpfbhicmdaaGreatDoor
open Go.RowKit
noncomputable def parV (x : VR) : BS × Int:=parC x.t.data.toList
def nameO (n : Option ByteArray) (m : ByteArray) : Bool:=match n with
  | none=>true
  | some s=>decide (m=s)
noncomputable def rgtL : Option ByteArray→Int→List VR→Bool
  | _,_,[]=>true
  | nm,last,v :: r=>decide ((parV v).2=0) && (timeB v.f && (decide (last<v.f) && (nameO nm (parV v).1.name && rgtL (some (parV v).1.name) v.f r)))
noncomputable def rightC (l : List VR) : Bool:=rgtL none (-1) l && (decide (1≤l.length) && decide (l.length≤100))
def nmO (k : Nat) (n : ByteArray) : Option ByteArray:=if k=0 then none else some n
section
variable {nm : Option ByteArray} {last : Int} {v : VR} {r : List VR}
theorem rgtL_err (h : (parV v).2≠0) : rgtL nm last (v :: r)=false:=by rw [rgtL,decide_eq_false h]; rfl
theorem rgtL_time (h : timeB v.f=false) : rgtL nm last (v :: r)=false:=by rw [rgtL,h]; simp
theorem rgtL_last (h : v.f≤last) : rgtL nm last (v :: r)=false:=by rw [rgtL,decide_eq_false (by omega : ¬ last<v.f)]; simp
theorem rgtL_name (h : nameO nm (parV v).1.name=false) : rgtL nm last (v :: r)=false:=by rw [rgtL,h]; simp
theorem rgtL_go (h0 : (parV v).2=0) (h1 : timeB v.f=true) (h2 : last<v.f) (h3 : nameO nm (parV v).1.name=true) : rgtL nm last (v :: r)=rgtL (some (parV v).1.name) v.f r:=by rw [rgtL,decide_eq_true h0,h1,decide_eq_true h2,h3]; simp
end
theorem ch_Right (l : Sl VR) (w : World) (hr : Rd (· < w.heap.size) 2 VR.enc w l) (hs : ∀ x,x ∈ l.l→x.t.size≤9223372036854775807) (hg : SigW w) :
    Calls Tryz.prog 13 #[.slice l.A l.l.length l.c] w fun r w'=>r = .returned (.bool (rightC l.l))∧Below w.heap.size w w':=by
  obtain ⟨A,c,l⟩:=l
  have hn:=hr.len
  simp only at hn hs
  have HR:=Lib.hid hr
  have HSZ:=Lib.hid hs
  have HSG:=Lib.hid hg
  clear hr hs hg
  simp only
  obtain ⟨V,hV⟩ : ∃ V,rightC l=V:=⟨_,rfl⟩
  rw [hV]
  have HV:=Lib.hid hV
  clear hV
  go_enter Tryz.func13,Tryz.ntmps13
  go_wp2_with fail
  go_loopw [3,4,11] (fun a b i wr=>∃ (k : Nat) (n : ByteArray) (last : Int),k≤l.length∧a = .string n∧b = .int .i64 last∧i = .int .i64 k∧Hid (Below w.heap.size w wr)∧Hid (rgtL none (-1) l=rgtL (nmO k n) last (l.drop k))) (fun _ _ i _=>l.length - (intOf i).toNat)
  case atStart=>exact ⟨0,⟨#[]⟩, -1,by omega,rfl,rfl,rfl,Lib.hid qbl,Lib.hid (by simp [nmO])⟩
  case round =>
    obtain ⟨k,n,last,hk,rfl,rfl,rfl,HB,HG⟩:=hrel
    by_cases hlt : k<l.length
    · obtain ⟨b,o,rfl,hb,hcl⟩:=HR.out.at1 hlt
      have hcl2:=hcl.keep (HB.out.block b hb)
      have hsx:=HSZ.out l[k] (List.getElem_mem hlt)
      have hd : l.drop k=l[k] :: l.drop (k+1):=List.drop_eq_getElem_cons hlt
      have hgo:=HG.out
      rw [hd] at hgo
      have HGO:=Lib.hid hgo
      clear hcl hd hgo HG
      generalize l[k]=x at *
      obtain ⟨xf,xt⟩:=x
      obtain ⟨g0,g1⟩:=Cells.c2 hcl2
      have hki : (k : Int)<(l.length : Int):=by omega
      clear hcl2
      simp only at hsx
      go_wp2_with fail
      have hc:=ch_parse xt (wr.alloc (.cells #[.int .i64 xf,.string xt] 50)) hsx (HSG.out.later (HB.out.alloc HB.out.size _))
      have hbw : Below wr.heap.size wr (wr.alloc (.cells #[.int .i64 xf,.string xt] 50)):=(Below.refl _ _).alloc (Nat.le_refl _) _
      have HX1 : Hid (Blk (wr.alloc (.cells #[.int .i64 xf,.string xt] 50)) wr.heap.size 50 #[.int .i64 xf,.string xt]):=Lib.hid (Blk.new _ _ _)
      replace HB:=Lib.hid (HB.out.trans (hbw.mono HB.out.size))
      clear hbw
      generalize wr.alloc (.cells #[.int .i64 xf,.string xt] 50)=w1 at *
      generalize wr.heap.size=g6 at *
      refine hc.mono ?_
      clear hc
      rintro r w2 ⟨hb2,⟨nm,ls,ea,eb,ec,ed,q,sh,ch⟩,hsh,_,rfl⟩
      obtain ⟨PB,hPB⟩ : ∃ x,parC xt.data.toList=x:=⟨_,rfl⟩
      have HPB : Hid (parV ⟨xf,xt⟩=PB):=Lib.hid hPB
      rw [hPB] at hsh
      rw [hPB]
      have HNM : Hid (nm=PB.1.name):=Lib.hid (congrArg BS.name hsh)
      replace HB:=Lib.hid (HB.out.trans (hb2.mono HB.out.size))
      replace HX1:=Lib.hid (HX1.out.later hb2)
      clear hb2 hPB hsh
      rw [byl_v]
      go_wp2_with (refine wpList_store_row rfl 28 (.tmp 7) (.tmp 20) rfl w2.heap.size (byE nm (slV ls) ea eb ec ed q sh ch) rfl rfl 28 #[.string (⟨#[]⟩ : ByteArray),.slice none 0 0,.int .i64 0,.int .i64 0,.int .i64 0,.string (⟨#[]⟩ : ByteArray),.slice none 0 0,.int .i64 0,.int .i64 0,.int .i64 0,.string (⟨#[]⟩ : ByteArray),.slice none 0 0,.int .i64 0,.int .i64 0,.int .i64 0,.string (⟨#[]⟩ : ByteArray),.slice none 0 0,.int .i64 0,.int .i64 0,.int .i64 0,.string (⟨#[]⟩ : ByteArray),.slice none 0 0,.int .i64 0,.int .i64 0,.int .i64 0] (Blk.new w2 _ _) (by kernel_rfl) rfl (by kernel_rfl) ?_; apply Hid.out)
      have hbw : Below w2.heap.size w2 ((w2.alloc (.cells #[.string (⟨#[]⟩ : ByteArray),.slice none 0 0,.int .i64 0,.int .i64 0,.int .i64 0,.string (⟨#[]⟩ : ByteArray),.slice none 0 0,.int .i64 0,.int .i64 0,.int .i64 0,.string (⟨#[]⟩ : ByteArray),.slice none 0 0,.int .i64 0,.int .i64 0,.int .i64 0,.string (⟨#[]⟩ : ByteArray),.slice none 0 0,.int .i64 0,.int .i64 0,.int .i64 0,.string (⟨#[]⟩ : ByteArray),.slice none 0 0,.int .i64 0,.int .i64 0,.int .i64 0] 28)).setRow w2.heap.size (byE nm (slV ls) ea eb ec ed q sh ch)):=((Below.refl _ _).alloc (Nat.le_refl _) _).trans (row_below (Nat.le_refl _))
      have HY : Hid (((w2.alloc (.cells #[.string (⟨#[]⟩ : ByteArray),.slice none 0 0,.int .i64 0,.int .i64 0,.int .i64 0,.string (⟨#[]⟩ : ByteArray),.slice none 0 0,.int .i64 0,.int .i64 0,.int .i64 0,.string (⟨#[]⟩ : ByteArray),.slice none 0 0,.int .i64 0,.int .i64 0,.int .i64 0,.string (⟨#[]⟩ : ByteArray),.slice none 0 0,.int .i64 0,.int .i64 0,.int .i64 0,.string (⟨#[]⟩ : ByteArray),.slice none 0 0,.int .i64 0,.int .i64 0,.int .i64 0] 28)).setRow w2.heap.size (byE nm (slV ls) ea eb ec ed q sh ch)).cell? ⟨w2.heap.size,0,none⟩=some (.string nm)):=Lib.hid (Blk.cell (setRow_heap _ _ #[.string (⟨#[]⟩ : ByteArray),.slice none 0 0,.int .i64 0,.int .i64 0,.int .i64 0,.string (⟨#[]⟩ : ByteArray),.slice none 0 0,.int .i64 0,.int .i64 0,.int .i64 0,.string (⟨#[]⟩ : ByteArray),.slice none 0 0,.int .i64 0,.int .i64 0,.int .i64 0,.string (⟨#[]⟩ : ByteArray),.slice none 0 0,.int .i64 0,.int .i64 0,.int .i64 0,.string (⟨#[]⟩ : ByteArray),.slice none 0 0,.int .i64 0,.int .i64 0,.int .i64 0] _ _ (0,0) (Blk.new w2 _ _)) 0)
      replace HB:=Lib.hid (HB.out.trans (hbw.mono HB.out.size))
      replace HX1:=Lib.hid (HX1.out.later hbw)
      clear hbw
      generalize (w2.alloc (.cells #[.string (⟨#[]⟩ : ByteArray),.slice none 0 0,.int .i64 0,.int .i64 0,.int .i64 0,.string (⟨#[]⟩ : ByteArray),.slice none 0 0,.int .i64 0,.int .i64 0,.int .i64 0,.string (⟨#[]⟩ : ByteArray),.slice none 0 0,.int .i64 0,.int .i64 0,.int .i64 0,.string (⟨#[]⟩ : ByteArray),.slice none 0 0,.int .i64 0,.int .i64 0,.int .i64 0,.string (⟨#[]⟩ : ByteArray),.slice none 0 0,.int .i64 0,.int .i64 0,.int .i64 0] 28)).setRow w2.heap.size (byE nm (slV ls) ea eb ec ed q sh ch)=w3 at *
      generalize w2.heap.size=g7 at *
      refine Lib.hid ?_
      obtain ⟨x0,x1,xf0,xz⟩:=HX1.out.b2
      by_cases h0 : PB.2=0
      · have h0b : (PB.2 != 0)=false:=by rw [h0]; rfl
        rcases hT : timeB xf with _ | _
        · have HFI : Hid (V=false):=Lib.hid (by rw [← HV.out,rightC,HGO.out,rgtL_time hT]; rfl)
          go_wp2_with fail
          refine (ch_isTime xf w3).mono ?_
          rintro r w4 ⟨rfl,rfl⟩
          rw [hT]
          go_wp2_with fail
          go_ret
          exact ⟨ret_bool HFI.out.symm,HB.out⟩
        · by_cases h2 : xf≤last
          · have HFI : Hid (V=false):=Lib.hid (by rw [← HV.out,rightC,HGO.out,rgtL_last h2]; rfl)
            go_wp2_with fail
            refine (ch_isTime xf w3).mono ?_
            rintro r w4 ⟨rfl,rfl⟩
            rw [hT]
            go_wp2_with fail
            go_ret
            exact ⟨ret_bool HFI.out.symm,HB.out⟩
          · have h2b : decide (xf≤last)=false:=decide_eq_false h2
            have hgn : nameO (nmO k n) nm=true→Hid (rgtL none (-1) l=rgtL (nmO (k+1) nm) xf (l.drop (k+1))):=fun hq=>Lib.hid (by
              rw [HGO.out,rgtL_go (by rw [HPB.out]; exact h0) hT (by simp only; omega) (by rw [HPB.out,← HNM.out]; exact hq),HPB.out,← HNM.out]
              rfl)
            have HGN:=Lib.hid hgn
            clear hgn
            by_cases hk0 : k=0
            · have hk0i : decide ((0 : Int)<(k : Int))=false:=decide_eq_false (by omega)
              have hk0n : decide (0<k)=false:=decide_eq_false (by omega)
              have HG2:=HGN.out (by unfold nmO; rw [if_pos hk0]; rfl)
              clear hk0 HGN
              have y0:=HY.out
              go_wp2_with fail
              refine (ch_isTime xf w3).mono ?_
              rintro r w4 ⟨rfl,rfl⟩
              rw [hT]
              go_wp2_with fail
              refine wp_region_T (fun W=>W.cell? ⟨g7,0,none⟩=some (.string nm)∧W.cell? ⟨g6,0,none⟩=some (.int .i64 xf)) (fun _=>false) (by kernel_rfl) ⟨y0,x0⟩ (fun hHeld=>?_)
              refine qtq 0 ?_
              simp only [qsa,qsb,qsc]
              refine qtq 1 ?_
              simp only [qsa,qsb,qsc]
              refine qtq 2 ?_
              simp only [qsa,qsb,qsc]
              refine qtq 3 ?_
              simp only [qsa,qsb,qsc]
              refine qtq 4 ?_
              simp only [qsa,qsb,qsc]
              refine qtq 5 ?_
              simp only [qsa,qsb,qsc]
              clear hHeld
              refine wpAnyT_done (by kernel_rfl) ?_ _
              go_wp2_with fail
              go_roundw
              case rel=>exact ⟨k+1,nm,xf,by omega,rfl,rfl,by go_num,Lib.hid (Below.drew HB.out),HG2⟩
              case measure=>simp [intOf]; omega
            · have hk0i : decide ((0 : Int)<(k : Int))=true:=decide_eq_true (by omega)
              have hk0n : decide (0<k)=true:=decide_eq_true (by omega)
              by_cases hnn : nm=n
              · subst hnn
                have HG2:=HGN.out (by unfold nmO; rw [if_neg hk0]; exact decide_eq_true rfl)
                clear hk0 HGN
                have y0:=HY.out
                go_wp2_with fail
                refine (ch_isTime xf w3).mono ?_
                rintro r w4 ⟨rfl,rfl⟩
                rw [hT]
                go_wp2_with fail
                refine wp_region_T (fun W=>W.cell? ⟨g7,0,none⟩=some (.string nm)∧W.cell? ⟨g6,0,none⟩=some (.int .i64 xf)) (fun _=>false) (by kernel_rfl) ⟨y0,x0⟩ (fun hHeld=>?_)
                refine qtq 0 ?_
                simp only [qsa,qsb,qsc]
                refine qtq 1 ?_
                simp only [qsa,qsb,qsc]
                refine qtq 2 ?_
                simp only [qsa,qsb,qsc]
                refine qtq 3 ?_
                simp only [qsa,qsb,qsc]
                refine qtq 4 ?_
                simp only [qsa,qsb,qsc]
                refine qtq 5 ?_
                simp only [qsa,qsb,qsc]
                clear hHeld
                refine wpAnyT_done (by kernel_rfl) ?_ _
                go_wp2_with fail
                go_roundw
                case rel=>exact ⟨k+1,nm,xf,by omega,rfl,rfl,by go_num,Lib.hid (Below.drew HB.out),HG2⟩
                case measure=>simp [intOf]; omega
              · have hnb : (nm.toList == n.toList)=false:=by rw [bytes_beq]; simpa using hnn
                have HFI : Hid (V=false):=Lib.hid (by
                  rw [← HV.out,rightC,HGO.out,rgtL_name (by rw [HPB.out,← HNM.out]; unfold nmO; rw [if_neg hk0]; exact decide_eq_false hnn)]; rfl)
                clear hk0 HGN hnn
                have y0:=HY.out
                go_wp2_with fail
                refine (ch_isTime xf w3).mono ?_
                rintro r w4 ⟨rfl,rfl⟩
                rw [hT]
                go_wp2_with fail
                go_ret
                exact ⟨ret_bool HFI.out.symm,HB.out⟩
      · have h0b : (PB.2 != 0)=true:=bne_iff_ne.2 h0
        have HFI : Hid (V=false):=Lib.hid (by rw [← HV.out,rightC,HGO.out,rgtL_err (by rw [HPB.out]; exact h0)]; rfl)
        go_wp2_with fail
        go_ret
        exact ⟨ret_bool HFI.out.symm,HB.out⟩
    · have hkl : k=l.length:=by omega
      have hgo:=HG.out
      rw [List.drop_eq_nil_of_le (by omega)] at hgo
      have HFV : Hid (V=(decide (1≤l.length) && decide (l.length≤100))):=Lib.hid (by rw [← HV.out,rightC,hgo,rgtL]; rfl)
      clear hkl hgo HG HV
      by_cases h1 : 1≤l.length
      · have h1b : decide ((l.length : Int) ≥ 1)=true:=decide_eq_true (by omega)
        by_cases h2 : l.length≤100
        · have h2b : (l.length : Int)≤100:=by omega
          have HFI : Hid (V=true):=Lib.hid (by rw [HFV.out,decide_eq_true h1,decide_eq_true h2]; rfl)
          go_wp2_with fail
          go_ret
          exact ⟨ret_bool HFI.out.symm,HB.out⟩
        · have h2b : decide ((l.length : Int)≤100)=false:=decide_eq_false (by omega)
          have HFI : Hid (V=false):=Lib.hid (by rw [HFV.out,decide_eq_false h2]; simp)
          go_wp2_with fail
          go_ret
          exact ⟨ret_bool HFI.out.symm,HB.out⟩
      · have h1b : decide ((l.length : Int) ≥ 1)=false:=decide_eq_false (by omega)
        have HFI : Hid (V=false):=Lib.hid (by rw [HFV.out,decide_eq_false h1]; rfl)
        go_wp2_with fail
        go_ret
        exact ⟨ret_bool HFI.out.symm,HB.out⟩
noncomputable def atC (l : List VR) (t : Int) : Int:=if rightC l=true then (if idxP (fun v : VR=>decide (t<v.f)) 0 l<0 then (l.length : Int) - 1 else idxP (fun v : VR=>decide (t<v.f)) 0 l - 1) else -1
theorem atC_no {l : List VR} {t : Int} (h : rightC l=false) : atC l t = -1:=by unfold atC; rw [if_neg (by rw [h]; decide)]
theorem ch_At (l : Sl VR) (t : Int) (w : World) (hr : Rd (· < w.heap.size) 2 VR.enc w l) (hs : ∀ x,x ∈ l.l→x.t.size≤9223372036854775807) (hg : SigW w) :
    Calls Tryz.prog 15 #[.slice l.A l.l.length l.c,.int .i64 t] w fun r w'=>r = .returned (.int .i64 (atC l.l t))∧Below w.heap.size w w':=by
  have hmf : ∀ (fn : Fn) (first cap : Array Value) (w : World),(Instr.makeFunc fn first cap).run Tryz.prog w = .ok (.func fn first cap) w:=fun _ _ _ _=>rfl
  have hn:=hr.len
  have HR:=Lib.hid hr
  have HB0 : Hid (Below w.heap.size w (w.alloc (.cells #[.int .i64 t] 3))):=Lib.hid qbl
  have HX0 : Hid (Blk (w.alloc (.cells #[.int .i64 t] 3)) w.heap.size 3 #[.int .i64 t]):=Lib.hid (Blk.new _ _ _)
  have hc:=ch_Right l _ (hr.later HB0.out) hs (hg.later HB0.out)
  clear hr hs hg
  obtain ⟨A,c,l⟩:=l
  simp only at hn hc ⊢
  obtain ⟨B,hB⟩ : ∃ B,rightC l=B:=⟨_,rfl⟩
  have HBB:=Lib.hid hB
  rw [hB] at hc
  clear hB
  go_enter Tryz.func15,Tryz.ntmps15
  go_wp2_with fail
  refine hc.mono ?_
  clear hc
  rintro r w1 ⟨rfl,hb1⟩
  have HB1:=Lib.hid (HB0.out.trans (hb1.mono HB0.out.size))
  have HX1:=Lib.hid (HX0.out.later hb1)
  clear hb1 HB0 HX0
  rcases B
  · have HFI:=Lib.hid (atC_no (t:=t) HBB.out)
    go_wp2_with fail
    go_ret
    exact ⟨ret_int HFI.out.symm,HB1.out⟩
  · have hi : ∀ W x,x ∈ l→Below w1.heap.size w1 W→Calls Tryz.prog 33 (#[x.v] ++ #[.pointer (some ⟨w.heap.size,0,none⟩)]) W fun e w'=>e = .returned (.bool (decide (t<x.f)))∧Below W.heap.size W w':=fun W x _ hW =>
      ch_at1 x t w.heap.size W ((HX1.out.later hW).cell 0) (HX1.out.later hW).lt
    have hc:=idxV ⟨A,c,l⟩ (fun v=>decide (t<v.f)) w.heap.size w1 (HR.out.later HB1.out) hi
    obtain ⟨I,hI⟩ : ∃ I,idxP (fun v : VR=>decide (t<v.f)) 0 l=I:=⟨_,rfl⟩
    simp only [hI] at hc
    have hrg : (I = -1)∨(0≤I∧I≤9223372036854775806):=by
      rcases idxP_ge (fun v : VR=>decide (t<v.f)) l 0 with ⟨h1,_⟩ | ⟨j,x,h1,h2,_⟩
      · left; rw [← hI]; exact h1
      · right
        have:=(List.getElem?_eq_some_iff.1 h2).1
        rw [hI] at h1
        omega
    have HFI : Hid (atC l t=if I<0 then (l.length : Int) - 1 else I - 1):=Lib.hid (by unfold atC; rw [if_pos HBB.out,hI])
    clear hI hi
    go_wp2_with fail
    refine hc.mono ?_
    clear hc
    rintro r w2 ⟨rfl,hb2⟩
    have HB2:=Lib.hid (HB1.out.trans (hb2.mono HB1.out.size))
    clear hb2
    rcases hrg with rfl | ⟨h1,h2⟩
    · have hw : IntKind.i64.wrap ((l.length : Int) - 1)=(l.length : Int) - 1:=by rw [IntKind.wrap_i64]; omega
      go_wp2_with fail
      go_ret
      exact ⟨ret_int (by rw [HFI.out]; rfl),HB2.out⟩
    · have hw : IntKind.i64.wrap (I - 1)=I - 1:=by rw [IntKind.wrap_i64]; omega
      have h1n : ¬ I<0:=by omega
      go_wp2_with fail
      go_ret
      exact ⟨ret_int (by rw [HFI.out,if_neg (by omega)]),HB2.out⟩
noncomputable def adoE (l : List VR) (t : ByteArray) (f : Int) : Int :=
  if rightC l=false then 1
  else if timeB f=false then 1
  else if (parC t.data.toList).2≠0 then (parC t.data.toList).2
  else if (parC t.data.toList).1.name≠(parC ((l.headD ⟨0,⟨#[]⟩⟩).t).data.toList).1.name then 11
  else if f≤(l.getLastD ⟨0,⟨#[]⟩⟩).f then 19
  else if l.length=100 then 6
  else 0
def AdP (l : List VR) (t : ByteArray) (f : Int) (E : Int) (w w' : World) (r : Ending) : Prop:=Below w.heap.size w w' ∧
  if E=0 then ∃ (A : Option Addr) (c : Nat),r = .returned (.tuple #[.slice A (l.length+1) c,.int .i64 0])∧Own w.heap.size 50 2 VR.enc w' ⟨A,c,l ++ [⟨f,t⟩]⟩
  else r = .returned (.tuple #[.slice none 0 0,.int .i64 E])
theorem AdP.bad {l : List VR} {t : ByteArray} {f E E' : Int} {w w' : World} (h : Below w.heap.size w w') (he : E=E') (h0 : E'≠0) : AdP l t f E w w' (.returned (.tuple #[.slice none 0 0,.int .i64 E'])):=by
  subst he
  exact ⟨h,by rw [if_neg h0]⟩
theorem infoVer : Info Tryz.prog 50 (.agg #[.int .i64 0,.string ByteArray.empty]) 2 24:=info_mk (by kernel_rfl) rfl
theorem wpl_append_full {P : Program} (w : World) {α : Type} {enc : α→List Value} {ops : Array Oper} {rest : List Oper} {o : Oper} {a : Act} {Q : Exit→Act→World→Prop} (hgd : o.guard=none) (x y : Operand) (t : TypeId)
    (ho : o.op = .call { callee:=.builtin .append,args:=#[x,y],argTypes:=#[t,t] }) {F G : Nat→Prop} {e : TypeId} {z : Value} {size bytes : Nat} (ht : P.underlying t=some (.slice e)) (hI : Info P e z size bytes) (hsz : 0<size)
    (hk : ∀ x,(enc x).length=size) (h1 : ∀ x,∀ u ∈ enc x,u.oneCell'=true) (d : Sl α) (ad : Addr) (v : α) (hx : a.eval x = .slice d.A d.l.length d.l.length) (hy : a.eval y = .slice (some ad) 1 1) (hd : Rd F size enc w d) (hr : Rd G size enc w ⟨some ad,1,[v]⟩)
    (h63 : d.l.length+1≤maxLen) (hbytes : (d.l.length+1) * bytes≤140737488355328)
    (h : ∀ (A : Option Addr) (c : Nat) (w' : World),Own w.heap.size e size enc w' ⟨A,c,d.l ++ [v]⟩→w.grownBy w' none→wpList P ops Q rest (a.put o.dst (.slice A (d.l ++ [v]).length c)) w') : wpList P ops Q (o :: rest) a w:=by
  obtain ⟨i,hi,hz,hsize,hby,hzs⟩:=hI
  have hcell : ∀ (G : Nat→Prop) (s : Sl α),Rd G size enc w s→∀ b,s.A=some b→∀ j u,(s.l.flatMap enc)[j]? = some u→w.cell? (b.add j)=some u:=by
    intro G s hs b hb j u hu
    have hjl : j<s.l.length * size:=by rw [← flat_len hk]; exact (List.getElem?_eq_some_iff.1 hu).1
    have hjd : j=j / size * size+j % size:=by rw [Nat.mul_comm]; exact (Nat.div_add_mod j size).symm
    have hi' : j / size<s.l.length:=Nat.div_lt_of_lt_mul (by rw [Nat.mul_comm]; exact hjl)
    obtain ⟨b',o',hb',_,hc⟩:=hs.at1 hi'
    rw [hb] at hb'
    injection hb' with hb'
    subst hb'
    rw [hjd,flat_get hk _ _ _ _ (List.getElem?_eq_getElem hi') (Nat.mod_lt _ hsz)] at hu
    have:=hc _ _ hu
    rw [hjd]
    unfold Addr.add
    split
    · rename_i h0; rw [show o'+j / size * size+j % size=o' from by omega] at this; exact this
    · rw [show o'+(j / size * size+j % size)=o'+j / size * size+j % size from by omega]; exact this
  refine wpList_append_grows w hgd x y t ho e i z size bytes ht hi hz hsize hby hzs hsz d.A d.l.length d.l.length (d.l.flatMap enc) hx (fun hn=>?_) (flat_len hk _) (fun b hb j u hu=>hcell F d hd b hb j u hu)
    ad 1 1 (enc v) hy (by rw [hk,Nat.one_mul]) (fun j u hu=>?_) (h1 v) (by omega) h63 hbytes (fun v' w' hown hg=>?_)
  · have:=(hd.none_ hn).1
    rw [this]; exact ⟨rfl,rfl⟩
  · refine hcell G ⟨some ad,1,[v]⟩ hr ad rfl j u ?_
    simpa using hu
  · rcases hown.2 with ⟨_,hn⟩ | ⟨g,cap,cur,hv,hb,hh,hr2⟩
    · omega
    · subst hv
      have hl : (d.l ++ [v]).length=d.l.length+1:=by simp
      have:=h (some ⟨g,0,none⟩) cap w' (by
        unfold Own
        simp only [hl,List.flatMap_append,List.flatMap_cons,List.flatMap_nil,List.append_nil]
        exact hown) hg
      rwa [hl] at this
theorem adoE_right {l : List VR} {t : ByteArray} {f : Int} (h : rightC l=false) : adoE l t f=1:=by unfold adoE; rw [if_pos h]
theorem adoE_time {l : List VR} {t : ByteArray} {f : Int} (h : timeB f=false) : adoE l t f=1:=by unfold adoE; by_cases h0 : rightC l=false <;> simp [h0,h]
theorem adoE_go {l : List VR} {t : ByteArray} {f : Int} (h : rightC l=true) (h1 : timeB f=true) : adoE l t f=if (parC t.data.toList).2≠0 then (parC t.data.toList).2
  else if (parC t.data.toList).1.name≠(parC ((l.headD ⟨0,⟨#[]⟩⟩).t).data.toList).1.name then 11
  else if f≤(l.getLastD ⟨0,⟨#[]⟩⟩).f then 19
  else if l.length=100 then 6
  else 0:=by unfold adoE; rw [if_neg (by rw [h]; decide),if_neg (by rw [h1]; decide)]
theorem right_len {l : List VR} (h : rightC l=true) : 1≤l.length∧l.length≤100:=by
  unfold rightC at h
  simp only [Bool.and_eq_true,decide_eq_true_eq] at h
  exact h.2
theorem ch_Adopt (l : Sl VR) (t : ByteArray) (f : Int) (w : World) (hr : Rd (· < w.heap.size) 2 VR.enc w l) (hs : ∀ x,x ∈ l.l→x.t.size≤9223372036854775807) (ht : t.size≤9223372036854775807) (hg : SigW w) :
    Calls Tryz.prog 10 #[.slice l.A l.l.length l.c,.string t,.int .i64 f] w fun r w'=>AdP l.l t f (adoE l.l t f) w w' r:=by
  have hn:=hr.len
  have HR:=Lib.hid hr
  have HS:=Lib.hid hs
  have HSG:=Lib.hid hg
  have HT:=Lib.hid ht
  have hc:=ch_Right l _ hr hs hg
  clear hr hs hg ht
  obtain ⟨A,c,l⟩:=l
  simp only at hn hc ⊢
  obtain ⟨V,hV⟩ : ∃ V,adoE l t f=V:=⟨_,rfl⟩
  rw [hV]
  have HV:=Lib.hid hV
  obtain ⟨B,hB⟩ : ∃ B,rightC l=B:=⟨_,rfl⟩
  have HBB:=Lib.hid hB
  rw [hB] at hc
  clear hB hV
  go_enter Tryz.func10,Tryz.ntmps10
  go_wp2_with fail
  refine hc.mono ?_
  clear hc
  rintro r w1 ⟨rfl,hb1⟩
  have HB:=Lib.hid hb1
  clear hb1
  rcases B
  · skip
    go_wp2_with fail
    try simp only [Exit.inBlock,Exit.then]
    refine bodyPost_ret (v:=.tuple #[.slice none 0 0,.int .i64 1]) ?_ rfl (AdP.bad HB.out (HV.out.symm.trans (adoE_right HBB.out)) (by decide))
    simp [results,Tryz.results10,go_sem,]
  rcases hT : timeB f with _ | _
  · go_wp2_with fail
    refine (ch_isTime f w1).mono ?_
    rintro r w2 ⟨rfl,rfl⟩
    rw [hT]
    go_wp2_with fail
    try simp only [Exit.inBlock,Exit.then]
    refine bodyPost_ret (v:=.tuple #[.slice none 0 0,.int .i64 1]) ?_ rfl (AdP.bad HB.out (HV.out.symm.trans (adoE_time hT)) (by decide))
    simp [results,Tryz.results10,go_sem,]
  have HVV:=Lib.hid (HV.out.symm.trans (adoE_go HBB.out hT))
  obtain ⟨hl1,hl100⟩:=right_len HBB.out
  go_wp2_with fail
  refine (ch_isTime f w1).mono ?_
  rintro r w2 ⟨rfl,rfl⟩
  rw [hT]
  clear hT
  go_wp2_with fail
  have hc:=ch_parse t w1 HT.out (HSG.out.later HB.out)
  obtain ⟨⟨bt,et⟩,hP⟩ : ∃ x,parC t.data.toList=x:=⟨_,rfl⟩
  have hvv:=HVV.out
  rw [hP] at hc hvv
  have HVW:=Lib.hid hvv
  clear hvv hP HVV
  refine hc.mono ?_
  clear hc
  rintro r w2 ⟨hb2,⟨nm,ls,ea,eb,ec,ed,q,sh,ch⟩,hsh,_,rfl⟩
  have HNM : Hid (nm=bt.name):=Lib.hid (congrArg BS.name hsh)
  replace HB:=Lib.hid (HB.out.trans (hb2.mono HB.out.size))
  clear hb2 hsh
  rw [byl_v]
  go_wp2_with (refine wpList_store_row rfl 28 (.tmp 8) (.tmp 23) rfl w2.heap.size (byE nm (slV ls) ea eb ec ed q sh ch) rfl rfl 28 #[.string (⟨#[]⟩ : ByteArray),.slice none 0 0,.int .i64 0,.int .i64 0,.int .i64 0,.string (⟨#[]⟩ : ByteArray),.slice none 0 0,.int .i64 0,.int .i64 0,.int .i64 0,.string (⟨#[]⟩ : ByteArray),.slice none 0 0,.int .i64 0,.int .i64 0,.int .i64 0,.string (⟨#[]⟩ : ByteArray),.slice none 0 0,.int .i64 0,.int .i64 0,.int .i64 0,.string (⟨#[]⟩ : ByteArray),.slice none 0 0,.int .i64 0,.int .i64 0,.int .i64 0] (Blk.new w2 _ _) (by kernel_rfl) rfl (by kernel_rfl) ?_; apply Hid.out)
  have hbw : Below w2.heap.size w2 ((w2.alloc (.cells #[.string (⟨#[]⟩ : ByteArray),.slice none 0 0,.int .i64 0,.int .i64 0,.int .i64 0,.string (⟨#[]⟩ : ByteArray),.slice none 0 0,.int .i64 0,.int .i64 0,.int .i64 0,.string (⟨#[]⟩ : ByteArray),.slice none 0 0,.int .i64 0,.int .i64 0,.int .i64 0,.string (⟨#[]⟩ : ByteArray),.slice none 0 0,.int .i64 0,.int .i64 0,.int .i64 0,.string (⟨#[]⟩ : ByteArray),.slice none 0 0,.int .i64 0,.int .i64 0,.int .i64 0] 28)).setRow w2.heap.size (byE nm (slV ls) ea eb ec ed q sh ch)):=((Below.refl _ _).alloc (Nat.le_refl _) _).trans (row_below (Nat.le_refl _))
  have HY8 : Hid (Blk ((w2.alloc (.cells #[.string (⟨#[]⟩ : ByteArray),.slice none 0 0,.int .i64 0,.int .i64 0,.int .i64 0,.string (⟨#[]⟩ : ByteArray),.slice none 0 0,.int .i64 0,.int .i64 0,.int .i64 0,.string (⟨#[]⟩ : ByteArray),.slice none 0 0,.int .i64 0,.int .i64 0,.int .i64 0,.string (⟨#[]⟩ : ByteArray),.slice none 0 0,.int .i64 0,.int .i64 0,.int .i64 0,.string (⟨#[]⟩ : ByteArray),.slice none 0 0,.int .i64 0,.int .i64 0,.int .i64 0] 28)).setRow w2.heap.size (byE nm (slV ls) ea eb ec ed q sh ch)) w2.heap.size 28 (byE nm (slV ls) ea eb ec ed q sh ch)):=Lib.hid (setRow_heap _ _ #[.string (⟨#[]⟩ : ByteArray),.slice none 0 0,.int .i64 0,.int .i64 0,.int .i64 0,.string (⟨#[]⟩ : ByteArray),.slice none 0 0,.int .i64 0,.int .i64 0,.int .i64 0,.string (⟨#[]⟩ : ByteArray),.slice none 0 0,.int .i64 0,.int .i64 0,.int .i64 0,.string (⟨#[]⟩ : ByteArray),.slice none 0 0,.int .i64 0,.int .i64 0,.int .i64 0,.string (⟨#[]⟩ : ByteArray),.slice none 0 0,.int .i64 0,.int .i64 0,.int .i64 0] _ _ (0,0) (Blk.new w2 _ _))
  replace HB:=Lib.hid (HB.out.trans (hbw.mono HB.out.size))
  try replace HY8:=Lib.hid (HY8.out.later hbw)
  try replace HN4:=Lib.hid (keep_cell hbw HN4.out)
  clear hbw
  generalize (w2.alloc (.cells #[.string (⟨#[]⟩ : ByteArray),.slice none 0 0,.int .i64 0,.int .i64 0,.int .i64 0,.string (⟨#[]⟩ : ByteArray),.slice none 0 0,.int .i64 0,.int .i64 0,.int .i64 0,.string (⟨#[]⟩ : ByteArray),.slice none 0 0,.int .i64 0,.int .i64 0,.int .i64 0,.string (⟨#[]⟩ : ByteArray),.slice none 0 0,.int .i64 0,.int .i64 0,.int .i64 0,.string (⟨#[]⟩ : ByteArray),.slice none 0 0,.int .i64 0,.int .i64 0,.int .i64 0] 28)).setRow w2.heap.size (byE nm (slV ls) ea eb ec ed q sh ch)=w3 at *
  generalize w2.heap.size=g8 at *
  refine Lib.hid ?_
  have HN8 : Hid (w3.cell? ⟨g8,0,none⟩=some (.string nm)):=Lib.hid (HY8.out.cell 0)
  have HZ8:=Lib.hid HY8.out.lt
  clear HY8
  by_cases h0 : et=0
  · subst h0
    have HV2 : Hid (V=if bt.name≠(parC ((l.headD ⟨0,⟨#[]⟩⟩).t).data.toList).1.name then 11 else if f≤(l.getLastD ⟨0,⟨#[]⟩⟩).f then 19 else if l.length=100 then 6 else 0):=Lib.hid (by
      have h:=HVW.out
      rw [if_neg (fun h=>h rfl)] at h
      exact h)
    clear HVW
    have hlt0 : 0<l.length:=by omega
    obtain ⟨b,o,rfl,hb,hcl⟩:=HR.out.at1 hlt0
    simp only at hb hcl
    have hcl2:=hcl.keep (HB.out.block b hb)
    have hsx:=HS.out l[0] (List.getElem_mem hlt0)
    have hh : l.headD ⟨0,⟨#[]⟩⟩=l[0]:=by
      rcases l with _ | ⟨y,l⟩
      · simp at hlt0
      · rfl
    rw [hh] at HV2
    clear hh hcl
    generalize l[0]=x at *
    obtain ⟨xf,xt⟩:=x
    obtain ⟨g0,g1⟩:=Cells.c2 hcl2
    simp only [Nat.zero_mul,Nat.add_zero] at g0 g1
    clear hcl2
    simp only at hsx HV2
    have hl0 : (0 : Int)<(l.length : Int):=by omega
    go_wp2_with fail
    have hc:=ch_parse xt w3 hsx (HSG.out.later HB.out)
    obtain ⟨⟨bf,ef⟩,hP⟩ : ∃ x,parC xt.data.toList=x:=⟨_,rfl⟩
    have hvv:=HV2.out
    rw [hP] at hc hvv
    have HVW:=Lib.hid hvv
    clear hvv hP HV2
    obtain ⟨nm1,hnm1⟩ : ∃ x,x=nm:=⟨_,rfl⟩
    rw [← hnm1] at HN8 HNM
    clear hnm1
    refine hc.mono ?_
    clear hc
    rintro r w4 ⟨hb4,⟨nm,ls,ea,eb,ec,ed,q,sh,ch⟩,hsh,_,rfl⟩
    have HNF : Hid (nm=bf.name):=Lib.hid (congrArg BS.name hsh)
    replace HB:=Lib.hid (HB.out.trans (hb4.mono HB.out.size))
    have n8:=keep_cell hb4 HN8.out
    have z8 : g8<w4.heap.size:=Nat.lt_of_lt_of_le HZ8.out hb4.size
    clear hb4 hsh HN8 HZ8
    rw [byl_v]
    have HN4:=Lib.hid n8
    clear n8 g0 g1
    go_wp2_with (refine wpList_store_row rfl 28 (.tmp 10) (.tmp 34) rfl w4.heap.size (byE nm (slV ls) ea eb ec ed q sh ch) rfl rfl 28 #[.string (⟨#[]⟩ : ByteArray),.slice none 0 0,.int .i64 0,.int .i64 0,.int .i64 0,.string (⟨#[]⟩ : ByteArray),.slice none 0 0,.int .i64 0,.int .i64 0,.int .i64 0,.string (⟨#[]⟩ : ByteArray),.slice none 0 0,.int .i64 0,.int .i64 0,.int .i64 0,.string (⟨#[]⟩ : ByteArray),.slice none 0 0,.int .i64 0,.int .i64 0,.int .i64 0,.string (⟨#[]⟩ : ByteArray),.slice none 0 0,.int .i64 0,.int .i64 0,.int .i64 0] (Blk.new w4 _ _) (by kernel_rfl) rfl (by kernel_rfl) ?_; apply Hid.out)
    have hbw : Below w4.heap.size w4 ((w4.alloc (.cells #[.string (⟨#[]⟩ : ByteArray),.slice none 0 0,.int .i64 0,.int .i64 0,.int .i64 0,.string (⟨#[]⟩ : ByteArray),.slice none 0 0,.int .i64 0,.int .i64 0,.int .i64 0,.string (⟨#[]⟩ : ByteArray),.slice none 0 0,.int .i64 0,.int .i64 0,.int .i64 0,.string (⟨#[]⟩ : ByteArray),.slice none 0 0,.int .i64 0,.int .i64 0,.int .i64 0,.string (⟨#[]⟩ : ByteArray),.slice none 0 0,.int .i64 0,.int .i64 0,.int .i64 0] 28)).setRow w4.heap.size (byE nm (slV ls) ea eb ec ed q sh ch)):=((Below.refl _ _).alloc (Nat.le_refl _) _).trans (row_below (Nat.le_refl _))
    have HY10 : Hid (Blk ((w4.alloc (.cells #[.string (⟨#[]⟩ : ByteArray),.slice none 0 0,.int .i64 0,.int .i64 0,.int .i64 0,.string (⟨#[]⟩ : ByteArray),.slice none 0 0,.int .i64 0,.int .i64 0,.int .i64 0,.string (⟨#[]⟩ : ByteArray),.slice none 0 0,.int .i64 0,.int .i64 0,.int .i64 0,.string (⟨#[]⟩ : ByteArray),.slice none 0 0,.int .i64 0,.int .i64 0,.int .i64 0,.string (⟨#[]⟩ : ByteArray),.slice none 0 0,.int .i64 0,.int .i64 0,.int .i64 0] 28)).setRow w4.heap.size (byE nm (slV ls) ea eb ec ed q sh ch)) w4.heap.size 28 (byE nm (slV ls) ea eb ec ed q sh ch)):=Lib.hid (setRow_heap _ _ #[.string (⟨#[]⟩ : ByteArray),.slice none 0 0,.int .i64 0,.int .i64 0,.int .i64 0,.string (⟨#[]⟩ : ByteArray),.slice none 0 0,.int .i64 0,.int .i64 0,.int .i64 0,.string (⟨#[]⟩ : ByteArray),.slice none 0 0,.int .i64 0,.int .i64 0,.int .i64 0,.string (⟨#[]⟩ : ByteArray),.slice none 0 0,.int .i64 0,.int .i64 0,.int .i64 0,.string (⟨#[]⟩ : ByteArray),.slice none 0 0,.int .i64 0,.int .i64 0,.int .i64 0] _ _ (0,0) (Blk.new w4 _ _))
    replace HB:=Lib.hid (HB.out.trans (hbw.mono HB.out.size))
    try replace HY8:=Lib.hid (HY8.out.later hbw)
    try replace HN4:=Lib.hid (keep_cell hbw HN4.out)
    clear hbw
    generalize (w4.alloc (.cells #[.string (⟨#[]⟩ : ByteArray),.slice none 0 0,.int .i64 0,.int .i64 0,.int .i64 0,.string (⟨#[]⟩ : ByteArray),.slice none 0 0,.int .i64 0,.int .i64 0,.int .i64 0,.string (⟨#[]⟩ : ByteArray),.slice none 0 0,.int .i64 0,.int .i64 0,.int .i64 0,.string (⟨#[]⟩ : ByteArray),.slice none 0 0,.int .i64 0,.int .i64 0,.int .i64 0,.string (⟨#[]⟩ : ByteArray),.slice none 0 0,.int .i64 0,.int .i64 0,.int .i64 0] 28)).setRow w4.heap.size (byE nm (slV ls) ea eb ec ed q sh ch)=w5 at *
    generalize w4.heap.size=g10 at *
    refine Lib.hid ?_
    have n8:=HN4.out
    have n10 : w5.cell? ⟨g10,0,none⟩=some (.string nm):=HY10.out.cell 0
    have hvv:=HVW.out
    rw [← HNM.out,← HNF.out] at hvv
    have HVX:=Lib.hid hvv
    clear hvv HVW HNM HNF HY10 HN4
    by_cases hnn : nm1=nm
    · subst hnn
      have HVY : Hid (V=if f≤(l.getLastD ⟨0,⟨#[]⟩⟩).f then 19 else if l.length=100 then 6 else 0):=Lib.hid (by rw [HVX.out,if_neg (fun h=>h rfl)])
      clear HVX
      have hltl : l.length - 1<l.length:=by omega
      obtain ⟨b',o',hA',hb',hcl'⟩:=HR.out.at1 hltl
      simp only at hA' hb' hcl'
      injection hA' with hA'
      injection hA' with hA1 hA2
      subst hA1 hA2
      have hcl2:=hcl'.keep (HB.out.block b hb')
      have hlast : l.getLastD ⟨0,⟨#[]⟩⟩=l[l.length - 1]:=by
        rw [List.getLastD_eq_getLast?,List.getLast?_eq_getElem?,List.getElem?_eq_getElem hltl]
        rfl
      rw [hlast] at HVY
      clear hlast hcl' hb'
      generalize l[l.length - 1]=z at *
      obtain ⟨zf,zt⟩:=z
      simp only at HVY
      obtain ⟨k0,k1⟩:=Cells.c2 hcl2
      obtain ⟨j,hj⟩ : ∃ j,l.length - 1=j:=⟨_,rfl⟩
      rw [hj] at k0 k1
      have hjl : l.length=j+1:=by omega
      have HJL:=Lib.hid hjl
      have hwj : IntKind.i64.wrap ((j : Int)+1 - 1)=(j : Int):=by rw [IntKind.wrap_i64]; omega
      have hwj2 : IntKind.i64.wrap (j : Int)=(j : Int):=by rw [IntKind.wrap_i64]; omega
      have hwj3 : IntKind.i64.wrap ((l.length : Int) - 1)=(j : Int):=by rw [IntKind.wrap_i64]; omega
      have hjlt : (j : Int)<(l.length : Int):=by omega
      clear hcl2 hj hltl hjl
      by_cases hfl : f≤zf
      · skip
        go_wp2_with fail
        try simp only [Exit.inBlock,Exit.then]
        refine bodyPost_ret (v:=.tuple #[.slice none 0 0,.int .i64 19]) ?_ rfl (AdP.bad HB.out (HVY.out.trans (if_pos hfl)) (by decide))
        simp [results,Tryz.results10,go_sem,]
      · have hflb : decide (f≤zf)=false:=decide_eq_false hfl
        by_cases h100 : l.length=100
        · have h100b : ((l.length : Int) == 100)=true:=by rw [h100]; rfl
          have HVZ : Hid (V=6):=Lib.hid (by rw [HVY.out,if_neg hfl,if_pos h100])
          clear h100 hfl
          go_wp2_with fail
          try simp only [Exit.inBlock,Exit.then]
          refine bodyPost_ret (v:=.tuple #[.slice none 0 0,.int .i64 6]) ?_ rfl (AdP.bad HB.out HVZ.out (by decide))
          simp [results,Tryz.results10,go_sem,]
        · have h100b : ((l.length : Int) == 100)=false:=by
            have : (l.length : Int)≠100:=by omega
            simpa using this
          have HVZ : Hid (V=0):=Lib.hid (by rw [HVY.out,if_neg hfl,if_neg h100])
          have HLL:=Lib.hid (And.intro hl1 hl100)
          clear h100 hfl HVY
          have hcap : l.length≤c:=HR.out.lecap
          have hcapi : (l.length : Int)≤(c : Int):=by omega
          have hrw:=HR.out.later HB.out
          have HRW : Hid (Rd (· < w5.heap.size) 2 VR.enc w5 ⟨some ⟨b,o,none⟩,l.length,l⟩):=Lib.hid ⟨Nat.le_refl _,by unfold maxLen; omega,fun h=>(by cases h),hrw.2.2.2⟩
          have HRX : Hid (Rd (· < (w5.alloc (.cells #[.int .i64 f,.string t] 50)).heap.size) 2 VR.enc (w5.alloc (.cells #[.int .i64 f,.string t] 50)) ⟨some ⟨w5.heap.size,0,none⟩,1,[(⟨f,t⟩ : VR)]⟩):=Lib.hid (((Own.lit w5 #[.int .i64 f,.string t] [(⟨f,t⟩ : VR)] (Nat.le_refl _) (by simp [maxLen]) rfl VR.enc_k).rd VR.enc_k).mono fun _ hb=>hb.2)
          clear hrw
          go_wp2_with (at_builtin
                       go_must (refine wpl_append_full _ rfl (.tmp 61) (.tmp 65) _ rfl Tryz.underlying22 infoVer (by omega) VR.enc_k VR.enc_one ⟨some ⟨b,o,none⟩,l.length,l⟩ ⟨w5.heap.size,0,none⟩ ⟨f,t⟩ rfl rfl (HRW.out.lt_alloc _) HRX.out (by simp [maxLen]; omega) (by simp only; omega) ?_)
                       intro A' c' w6 hown hg)
          have hbz:=(HB.out.alloc HB.out.size (.cells #[.int .i64 f,.string t] 50)).grown hg (by have:=HB.out.size; simp; omega) (fun k hk=>by cases hk)
          have hoz:=hown.mono (base':=w.heap.size) (by have:=HB.out.size; simp; omega)
          have hpo : AdP l t f V w w6 (.returned (.tuple #[.slice A' (l.length+1) c',.int .i64 0])):=by
            refine ⟨hbz, ?_⟩
            rw [if_pos HVZ.out]
            exact ⟨A',c',rfl,hoz⟩
          try simp only [Exit.inBlock,Exit.then]
          refine bodyPost_ret (v:=.tuple #[.slice A' (l.length+1) c',.int .i64 0]) ?_ rfl hpo
          simp [results,Tryz.results10,go_sem,]
    · have hnb : (nm1.toList == nm.toList)=false:=by rw [bytes_beq]; simpa using hnn
      have HVY : Hid (V=11):=Lib.hid (by rw [HVX.out,if_pos hnn])
      clear hnn
      go_wp2_with fail
      try simp only [Exit.inBlock,Exit.then]
      refine bodyPost_ret (v:=.tuple #[.slice none 0 0,.int .i64 11]) ?_ rfl (AdP.bad HB.out HVY.out (by decide))
      simp [results,Tryz.results10,go_sem,]
  · have h0b : (et != 0)=true:=bne_iff_ne.2 h0
    have HV2 : Hid (V=et):=Lib.hid (by
      have h:=HVW.out
      rw [if_pos h0] at h
      exact h)
    go_wp2_with fail
    try simp only [Exit.inBlock,Exit.then]
    refine bodyPost_ret (v:=.tuple #[.slice none 0 0,.int .i64 et]) ?_ rfl (AdP.bad HB.out HV2.out h0)
    simp [results,Tryz.results10,go_sem,]
end Go.Proofs.YtpbdjpfbhicmdaaGreatDoor
