/- Texts of the proof, put together: XI, XJ, XY, WE, WD, WF, WI. -/
import Derived.Test.YtiogeggilnhajaaGreatDoorBk
import Derived.Test.YtiogeggilnhajaaGreatDoorBl
import Derived.Test.YtiogeggilnhajaaGreatDoorRows
import Derived.Test.YtiogeggilnhajaaGreatDoorTie
import Derived.Test.YtiogeggilnhajaaGreatDoorCards
import Derived.Test.YtiogeggilnhajaaGreatDoorBe
import Derived.WalkKit
import Derived.ProofKit
import Derived.Lay
import Derived.LaidOnce
import Derived.SevenTiedAt
set_option maxHeartbeats 8000000
set_option linter.unusedVariables false
set_option linter.unusedSimpArgs false
set_option maxRecDepth 100000
namespace Go.Proofs
open Go Go.Pl Go.RowKit Go.Shelf Tryz
end Go.Proofs
namespace Go.Proofs
open Go Go.Pl Tryz
theorem KI {L:List eR} {l:List Ex} {n:Int} (h:HF L l n = false):L.length <= 20 /\ ((l.length:Int) <= n \/ 2000 < l.length) /\ l.length <= 2010:=by
 unfold HF at h
 simp only [Bool.or_eq_false_iff,Bool.and_eq_false_iff,decide_eq_false_iff_not] at h
 omega
end Go.Proofs
namespace Go.Proofs.YtiogeggilnhajaaGreatDoor
open Go Go.Pl Go.Proofs Tryz
open Go.ChangeShapes Go.WideShapes Go.ChangeAt Go.RowKit
theorem own:ownKnob prog.godebug = none:=by kernel_rfl
theorem len8 {α:Type} {l:List α} (h:l.length = 8):∃ a b c d e f g i,l = [a,b,c,d,e,f,g,i]:=by
 obtain _ | ⟨a,_ | ⟨b,_ | ⟨c,_ | ⟨d,_ | ⟨e,_ | ⟨f,_ | ⟨g,_ | ⟨i,_ | ⟨j,l⟩⟩⟩⟩⟩⟩⟩⟩⟩:=l <;> simp at h
 exact ⟨a,b,c,d,e,f,g,i,rfl⟩
theorem HY {n:Nat} {xs:List V} (h:eO prog n 3 xs):∃ i:Int,xs = [iI i] /\ -9223372036854775808 <= i /\ i <= 9223372036854775807:=by
 obtain ⟨i,rfl,hw⟩:=h.int aa7
 simp [Lit.wf,IntKind.min,IntKind.max,IntKind.signed,IntKind.bits] at hw
 exact ⟨i,rfl,by omega⟩
theorem EK {n:Nat} {xs:List V} (h:eO prog n 2 xs):∃ i:Int,xs = [iI i]:=by
 obtain ⟨i,rfl,hw⟩:=h.int TT
 exact ⟨i,rfl⟩
theorem hasB {n:Nat} {xs:List V} (h:eO prog n 4 xs):∃ b:Bool,xs = [.bool b]:=h.bool aa8
theorem PO {n:Nat} {xs:List V} (h:eO prog (n + 1) 111 xs):∃ m:eR,.agg xs = bG m:=by
 obtain ⟨x,y,z,u,rfl⟩:=aa1 (h.len.trans xC)
 have h0:=h.cZ xB Ga
 have h1:=h.cZ xB Gb
 have h2:=h.cZ xB Gc
 have h3:=h.cZ xB Ge
 rw [FQ] at h0 h1
 rw [Bq] at h2 h3
 obtain ⟨a,ha,_⟩:=HY h0
 obtain ⟨b,hb,_⟩:=HY h1
 obtain ⟨c,hc⟩:=EK h2
 obtain ⟨d,hd⟩:=EK h3
 simp at ha hb hc hd
 subst ha hb hc hd
 exact ⟨⟨a,b,c,d⟩,rfl⟩
theorem KJ {n:Nat} {xs:List V} (h:eO prog (n + 2) 22 xs):∃ l:List eR,xs = [.sl 4 (l.map bG)]:=by
 obtain ⟨l,h,hl⟩:=eO.slice (r:=bG) FU h fun ys hy=>by
  obtain ⟨f,hf⟩:=PO hy
  exact ⟨f,by rw [x8 J4]; exact hf⟩
 rw [xC] at h
 exact ⟨l,h⟩
theorem iU {P:Program} {W:World} {name:String} {k:IntKind} {zs:List Int} {g:Nat} {t e:TypeId} {n:Nat}
 (hg:P.globalNamed name = some g) (fb:(P.globals[g]?).map (·.type) = some t) (ht:P.underlying t = some (.array n e)) (he:P.underlying e = some (.int k)) (LL:P.cellsOf e = 1) (hct:P.cellsOf t = n) :
 ∀ (laid:List (String × DataW Unit)) (ps:List MemPlace),(name,Lib.tabData k zs) ∈ laid -> DataW.LaidVars P W laid ps -> Lib.TabIs P W name k zs
 | [],_,hm,_=>by simp at hm
 | (n',d') :: r,ps,hm,h=>by
   obtain ⟨g',t',cs,fuel,p,q,yA,xr,aen,hd,hr,_⟩:=h
   rcases List.mem_cons.1 hm with e1 | e1
   ·injection e1 with e1 e2
    subst e1 e2
    obtain rfl:=Option.some.inj (hg.symm.trans yA)
    obtain rfl:=Option.some.inj (fb.symm.trans xr)
    unfold Lib.TabIs
    rw [aen,<- Lib.cells_of_tab ht he LL hct hd]
   ·exact iU hg fb ht he LL hct r q e1 hr
def aeo:List Int:=[0,1,56,2,57,49,28,3,61,58,42,50,38,29,17,4,62,47,59,36,45,43,51,22,53,39,33,30,24,18,12,5,63,55,48,27,60,41,37,16,46,35,44,21,52,32,23,11,54,26,40,15,34,20,31,10,25,14,19,9,13,8,7,6]
theorem HZ:(Rows.laid_math_bits_deBruijn64tab:DataW Unit) = Lib.tabData .u8 aeo:=by kernel_rfl
theorem Ia:(Rows.laid_internal_strconv_uint64pow10:DataW Unit) = Lib.tabData .u64 Lib.pow10Tab:=by kernel_rfl
theorem KK:(Rows.laid_strings_asciiSpace:DataW Unit) = Lib.tabData .u8 Lib.asciiSpaceTab:=by kernel_rfl
theorem PQ {g1 g2 g3:Nat}:∀ b,4 <= b -> Bp g1 g2 g3 b = none:=fun b hb=>by unfold Bp; rw [if_neg (by omega),if_neg (by omega),if_neg (by omega),if_neg (by omega)]
theorem KL {laid:List (String × DataW Unit)} (h1:("math/bits.deBruijn64tab",(Rows.laid_math_bits_deBruijn64tab:DataW Unit)) ∈ laid) (h2:("internal/strconv.uint64pow10",(Rows.laid_internal_strconv_uint64pow10:DataW Unit)) ∈ laid) (h0:("strings.asciiSpace",(Rows.laid_strings_asciiSpace:DataW Unit)) ∈ laid)
 (hp:(laid.all fun x=>x.2.handleName?.isNone) = true) {W:World} (h:laidMetH prog laid W):p3 prog (Bp 2 4 0) W (jg W):=by
 rw [MakeChecks.laidMetH_plain _ _ _ hp] at h
 obtain ⟨ps,h3,_⟩:=h
 rw [HZ] at h1
 rw [Ia] at h2
 rw [KK] at h0
 exact FO (by kernel_rfl) (by kernel_rfl) (by kernel_rfl)
  (iU (g:=2) (t:=275) (e:=255) (n:=20) (by kernel_rfl) (by kernel_rfl) (by kernel_rfl) (by kernel_rfl) (by kernel_rfl) (by kernel_rfl) laid ps h2 h3)
  (iU (g:=4) (t:=288) (e:=5) (n:=64) (by kernel_rfl) (by kernel_rfl) (by kernel_rfl) (by kernel_rfl) (by kernel_rfl) (by kernel_rfl) laid ps h1 h3)
  (iU (g:=0) (t:=166) (e:=5) (n:=256) (by kernel_rfl) (by kernel_rfl) (by kernel_rfl) (by kernel_rfl) (by kernel_rfl) (by kernel_rfl) laid ps h0 h3)
theorem XI {n:Nat} {xs:List V} (h:eO prog n 2 xs):∃ i:Int,xs = [iI i] /\ -9223372036854775808 <= i /\ i <= 9223372036854775807:=by
 obtain ⟨i,rfl,hw⟩:=h.int TT
 simp [Lit.wf,IntKind.min,IntKind.max,IntKind.signed,IntKind.bits] at hw
 exact ⟨i,rfl,by omega⟩
theorem PR {n:Nat} {xs:List V} (h:eO prog (n + 1) 69 xs):∃ e:Ex,.agg xs = ey e /\ NE e /\ NR e:=by
 obtain ⟨x0,x1,x2,x3,x4,x5,x6,x7,rfl⟩:=len8 (h.len.trans qa)
 have h0:=h.cZ rA Jv
 have h1:=h.cZ rA Jw
 have h2:=h.cZ rA Jx
 have h3:=h.cZ rA Jy
 have h4:=h.cZ rA Jz
 have h5:=h.cZ rA J0
 have h6:=h.cZ rA J1
 have h7:=h.cZ rA J2
 rw [FQ] at h0 h1
 rw [Bq] at h2 h3 h4 h5 h6
 rw [aa9] at h7
 obtain ⟨a0,e0,_⟩:=HY h0
 obtain ⟨a1,e1,_⟩:=HY h1
 obtain ⟨a2,e2⟩:=EK h2
 obtain ⟨a3,e3⟩:=EK h3
 obtain ⟨a4,e4⟩:=EK h4
 obtain ⟨a5,e5⟩:=EK h5
 obtain ⟨a6,e6,r6⟩:=XI h6
 obtain ⟨a7,e7⟩:=hasB h7
 simp at e0 e1 e2 e3 e4 e5 e6 e7
 subst e0 e1 e2 e3 e4 e5 e6 e7
 exact ⟨⟨⟨a0,a1.toNat,a2,a3,a4,a5,a6,a7⟩,a1⟩,rfl,rfl,r6⟩
theorem KM {n:Nat} {xs:List V} (h:eO prog (n + 2) 23 xs):∃ l:List Ex,xs = [.sl 8 (l.map ey)] /\ (∀ e,e ∈ l -> NE e) /\ ∀ e,e ∈ l -> NR e:=by
 obtain ⟨l,h,hl⟩:=eO.slice (r:=fun x:{e:Ex // NE e /\ NR e}=>ey x.1) r9 h fun ys hy=>by
  obtain ⟨f,hf,hr⟩:=PR hy
  exact ⟨⟨f,hr⟩,by rw [x8 NB]; exact hf⟩
 rw [qa] at h
 refine ⟨l.map (·.1),by rw [h,List.map_map]; rfl,fun f hf=>?_,fun f hf=>?_⟩
 ·obtain ⟨y,_,rfl⟩:=List.mem_map.1 hf
  exact y.2.1
 ·obtain ⟨y,_,rfl⟩:=List.mem_map.1 hf
  exact y.2.2
theorem KN {n:Nat} {xs:List V} (h:eO prog (n + 3) 25 xs):∃ (L:List eR) (most:Int) (l:List Ex),.agg xs = ck L most l /\ (∀ e,e ∈ l -> NE e) /\ ∀ e,e ∈ l -> NR e:=by
 obtain ⟨x,y,z,rfl⟩:=aa0 (h.len.trans Ua)
 have h0:=h.cZ FV Js
 have h1:=h.cZ FV Jt
 have h2:=h.cZ FV Ju
 rw [TY] at h0
 rw [FQ] at h1
 rw [TZ] at h2
 obtain ⟨L,hL⟩:=KJ h0
 obtain ⟨m,hm,_⟩:=HY h1
 obtain ⟨l,hl,hn⟩:=KM h2
 simp at hL hm hl
 subst hL hm hl
 exact ⟨L,m,l,rfl,hn⟩
end Go.Proofs.YtiogeggilnhajaaGreatDoor
namespace Go.Proofs
open Go Go.Pl Tryz
end Go.Proofs
namespace Go.Proofs
open Go Go.Pl Tryz
theorem KO {L:List eR} {most:Int} {l:List Ex} (hl:l.length <= 100000):(fE L most l).1.length <= 100000:=by
 unfold fE
 split
 ·simp
 ·split
  ·simp
  ·rename_i f t pY
   split
   ·simp
   ·unfold E5
    obtain ⟨m,hm,PW,-⟩:=nm pY
    have:=(E0 (kM L most (Dh L most (l.take (f.2.toNat + 1)))) (l.take (f.2.toNat + 1)).length (l.take (f.2.toNat + 1)) (by rw [List.length_take]; omega) (Nat.le_refl _)).2
    rw [List.length_take] at this
    dsimp only
    rw [List.length_take]
    omega
theorem EL (L:List eR) (most:Int) (z:List Ex × Int) (hL:L.length <= 1000000) (hl:z.1.length <= 1000000) (bx:aa):ay prog 23 [kj L most z,kj L most z] bx (.bool true):=by
 unfold kj
 split
 ·exact ED L most z.1 hL hl bx
 ·exact EE bx
theorem BR (L:List eR) (most:Int) (z:List Ex × Int):∃ x y w,kj L most z = .agg [x,y,w] /\ x.strip = x /\ y.strip = y /\ w.strip = w /\ x.az = true /\ y.az = true /\ w.az = true /\ x.cells = [x] /\ y.cells = [y] /\ w.cells = [w] /\ okV x = true /\ okV y = true /\ okV w = true:=by
 unfold kj
 split
 ·exact ⟨_,_,_,rfl,rfl,rfl,rfl,rfl,rfl,rfl,rfl,rfl,rfl,rfl,rfl,rfl⟩
 ·exact ⟨_,_,_,rfl,rfl,rfl,rfl,rfl,rfl,rfl,rfl,rfl,rfl,rfl,rfl,rfl⟩
theorem Ib (L:List eR) (most:Int) (l:List Ex) (bB:∀ e,e ∈ l -> NE e) (A3:∀ e,e ∈ l -> NR e) (bx:aa):ay prog 5 [ck L most l] bx (.bool true):=by
 refine adk fun hf=>?_
 have cA:=fun bx'=>KH bx'
 have cf:=fun bx'=>X8 L most l 70 bx'
 simp [go_sem,C5,hf,ck]
 refine ah (cf _) ?_
 cases hfar:HF L l 70
 rotate_left
 ·simp [go_sem,hf]
  refine ah (cA _) ?_
  simp [go_sem,hf]
  exact aA (by simp [go_sem]) ⟨by simp [go_sem],rfl⟩
 obtain ⟨f1,f2,f3⟩:=KI hfar
 have c1:=fun bx'=>LR L most l (by omega) (by omega) bB bx'
 have c2:=fun bx'=>XA L most l (by omega) (by omega) bB A3 bx'
 have hlen:=KO (L:=L) (most:=most) (l:=l) (by omega)
 generalize fE L most l = z at c1 c2 hlen
 have c3:=fun bx'=>EL L most z (by omega) (by omega) bx'
 obtain ⟨x,y,w,hz,s1,s2,s3,s4,s5,s6,s7,s8,s9,s10,s11,s12⟩:=BR L most z
 rw [hz] at c1 c2 c3
 simp [go_sem,hf,iI]
 refine ah (c1 _) ?_
 simp [go_sem,hf,iI,s1,s2,s3,s4,s5,s6,s7,s8,s9,s10,s11,s12]
 intro b3 nU
 refine ah (c2 _) ?_
 simp [go_sem,hf,iI,s1,s2,s3,s4,s5,s6,s7,s8,s9,s10,s11,s12,pZ nU]
 intro b5 Ep
 rw [pZ Ep]
 refine ah (c3 _) ?_
 simp [go_sem,hf,iI]
 refine dI (cA _) (by simp) (by simp [go_sem]) ?_
 simp [go_sem,hf]
 exact aA (by simp [go_sem]) ⟨by simp [go_sem],rfl⟩
end Go.Proofs
