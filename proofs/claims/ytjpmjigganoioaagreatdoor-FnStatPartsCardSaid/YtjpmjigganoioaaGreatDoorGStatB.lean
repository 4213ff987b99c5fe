/- A part of the proof: GStatB. -/
import Derived.Test.YtjpmjigganoioaaGreatDoorGStatA
set_option linter.unusedVariables false
noncomputable section
namespace Go.E
open Go Go.Proofs
abbrev Zde.ps:List PT:=[.val (.str)]
abbrev Zde.ros:List (ResultVar × RO):=[(.tmp 2,.val (.int .i64)),(.tmp 3,.val (.bool))]
def Zde.env:Env:={ L:=tlist,G:=glist,C:=[(158,entry [.val .str] [(.tmp 0,.val (.int .i64)),(.tmp 0,.val .err)] Zf3),(59,Zcm.en),(159,entry [.val (.int .i64)] [(.tmp 0,.val .str)] strconv_Itoa)] }
def Zde.an:Ann:={ lp:=[],jn:=[],sc:=[],kp:=[] }
def Zde.code:Code:=Tryz.f112.body.getD .skip
def Zde (x:ByteArray):zt7:=fnR Zde.env Zde.an Zde.code Zde.ps Zde.ros x
noncomputable abbrev Zde.en:Zda:=entry Zde.ps Zde.ros Zde
theorem Zde.envC:EnvC Tryz.prog Zde.env:=(cns (cns (cns (.nilG lay_ok Zbh) strconv_Itoa.sat) Zcm.sat) Zf3.sat)
theorem Zde.sat:SatC Tryz.prog glist 112 Zde.en:=satY (fn:=Tryz.f112) (c:=Zde.code) (An:=Zde.an) Zde.envC (by kernel_rfl) (by kernel_rfl)
theorem impl_number_eq (p0s:ByteArray):Zde (p0s) = bindO (Zf3 p0s) (fun (y1:(Int × Bool))=>iteB y1.2 ((some (0,Bool.false))) (bindO (Zcm (y1.1,((-999999999),999999999))) (fun (y2:Bool)=>iteB (notB y2) ((some (0,Bool.false))) (bindO (strconv_Itoa y1.1) (fun (y3:ByteArray)=>iteB (notB (eqS y3 p0s)) ((some (0,Bool.false))) ((some (y1.1,Bool.true)))))))):=by kernel_rfl
abbrev Zas.ps:List PT:=[.val (.str),.val (.int .u8)]
abbrev Zas.ros:List (ResultVar × RO):=[(.tmp 4,.val (.int .i64))]
def Zas.env:Env:={ L:=tlist,G:=glist,C:=[(307,entry [.val .str,.val (.int .u8)] [(.tmp 0,.val (.int .i64))] Zdx)] }
def Zas.an:Ann:={ lp:=[],jn:=[],sc:=[],kp:=[] }
def Zas.code:Code:=Tryz.f291.body.getD .skip
def Zas (x:ByteArray × Int):(Option Int):=fnR Zas.env Zas.an Zas.code Zas.ps Zas.ros x
noncomputable abbrev Zas.en:Zda:=entry Zas.ps Zas.ros Zas
theorem Zas.envC:EnvC Tryz.prog Zas.env:=(cns (.nilG lay_ok Zbh) Zdx.sat)
theorem Zas.sat:SatC Tryz.prog glist 291 Zas.en:=satY (fn:=Tryz.f291) (c:=Zas.code) (An:=Zas.an) Zas.envC (by kernel_rfl) (by kernel_rfl)
theorem Zgc (p0s:ByteArray) (p1c:Int):Zas ((p0s,p1c)) = bindO (Zdx (p0s,p1c)) (fun (y2:Int)=>(some y2)):=by kernel_rfl
abbrev Za2.ps:List PT:=[.val (.str),.val (.str)]
abbrev Za2.ros:List (ResultVar × RO):=[(.tmp 4,.val (.int .i64))]
def Za2.env:Env:={ L:=tlist,G:=glist,C:=[(291,Zas.en),(292,entry [.val .str,.val .str] [(.tmp 0,.val (.int .i64))] Zeb),(293,Zd4.en),(294,Zdc.en)] }
def Za2.an:Ann:={ lp:=[(15,[0,1,5,6,7,8,9,10])],jn:=[(21,[0,1,5,6,7,8,9,10]),(35,[])],sc:=[],kp:=[] }
def Za2.code:Code:=Tryz.f263.body.getD .skip
def Za2 (x:ByteArray × ByteArray):(Option Int):=fnR Za2.env Za2.an Za2.code Za2.ps Za2.ros x
noncomputable abbrev Za2.en:Zda:=entry Za2.ps Za2.ros Za2
theorem Za2.envC:EnvC Tryz.prog Za2.env:=(cns (cns (cns (cns (.nilG lay_ok Zbh) Zdc.sat) Zd4.sat) Zeb.sat) Zas.sat)
theorem Za2.sat:SatC Tryz.prog glist 263 Za2.en:=satY (fn:=Tryz.f263) (c:=Za2.code) (An:=Za2.an) Za2.envC (by kernel_rfl) (by kernel_rfl)
theorem Zg6 (p0t p1o:ByteArray):Za2 ((p0t,p1o)) = iteB (eqI (lenS p1o) 0) ((some 0)) (iteB (eqS p1o p0t) ((some 0)) (iteB (eqI (lenS p1o) 1) (bindO (atS p1o 0) (fun (y2:Int)=>bindO (Zas (p0t,y2)) (fun (y3:Int)=>(some y3)))) (iteB (leI (lenS p0t) (lenS p1o)) ((some (-1))) (none)))):=by kernel_rfl
abbrev Zcx.ps:List PT:=[.val (.str),.val (.str)]
abbrev Zcx.ros:List (ResultVar × RO):=[(.tmp 4,.val (.int .i64))]
def Zcx.env:Env:={ L:=tlist,G:=glist,C:=[(263,Za2.en)] }
def Zcx.an:Ann:={ lp:=[],jn:=[],sc:=[],kp:=[] }
def Zcx.code:Code:=Tryz.f225.body.getD .skip
def Zcx (x:ByteArray × ByteArray):(Option Int):=fnR Zcx.env Zcx.an Zcx.code Zcx.ps Zcx.ros x
noncomputable abbrev Zcx.en:Zda:=entry Zcx.ps Zcx.ros Zcx
theorem Zcx.envC:EnvC Tryz.prog Zcx.env:=(cns (.nilG lay_ok Zbh) Za2.sat)
theorem Zcx.sat:SatC Tryz.prog glist 225 Zcx.en:=satY (fn:=Tryz.f225) (c:=Zcx.code) (An:=Zcx.an) Zcx.envC (by kernel_rfl) (by kernel_rfl)
theorem strings_Index_eq (p0s p1substr:ByteArray):Zcx ((p0s,p1substr)) = bindO (Za2 (p0s,p1substr)) (fun (y2:Int)=>(some y2)):=by kernel_rfl
abbrev Zb6.ps:List PT:=[.val (.str),.val (.str)]
abbrev Zb6.ros:List (ResultVar × RO):=[(.tmp 4,.val (.int .i64))]
def Zb6.env:Env:={ L:=tlist,G:=glist,C:=[(260,Zdi.en),(262,entry [.val .str,.val (.int .u8)] [(.tmp 0,.val (.int .i64))] Zdw),(225,Zcx.en)] }
def Zb6.an:Ann:={ lp:=[(6,[0,1,5])],jn:=[],sc:=[],kp:=[] }
def Zb6.code:Code:=Tryz.f224.body.getD .skip
def Zb6 (x:ByteArray × ByteArray):(Option Int):=fnR Zb6.env Zb6.an Zb6.code Zb6.ps Zb6.ros x
noncomputable abbrev Zb6.en:Zda:=entry Zb6.ps Zb6.ros Zb6
theorem Zb6.envC:EnvC Tryz.prog Zb6.env:=(cns (cns (cns (.nilG lay_ok Zbh) Zcx.sat) Zdw.sat) Zdi.sat)
theorem Zb6.sat:SatC Tryz.prog glist 224 Zb6.en:=satY (fn:=Tryz.f224) (c:=Zb6.code) (An:=Zb6.an) Zb6.envC (by kernel_rfl) (by kernel_rfl)
noncomputable abbrev Zb6.L:=FL Zb6.env Zb6.an Zb6.code Zb6.ps Zb6.ros
def Zb6.l6 (h0 h1:ByteArray) (h2:Int):(Option Int):=Zb6.L [1,1,1,1,0] (St.mk ((0,(vs h0)) :: ((1,(vs h1)) :: ((5,(V.val zt9 h2)) :: []))) [] 0)
theorem Zb6.l6_eq (h0 h1:ByteArray) (h2:Int):Zb6.l6 h0 h1 h2 = bindO (Zcx (h0,h1)) (fun (y3:Int)=>iteB (eqI y3 (-1)) ((some h2)) (iteB (Zfs (addI .i64 y3 (lenS h1)) (lenS h0) (lenS h0)) (Zb6.l6 (cutS h0 (addI .i64 y3 (lenS h1)) (lenS h0)) h1 (addI .i64 h2 1)) (none))):=(Zcg Zb6.envC.ok.nat _ _ _).trans (by kernel_rfl)
theorem strings_Count_eq (p0s p1substr:ByteArray):Zb6 ((p0s,p1substr)) = iteB (eqI (lenS p1substr) 0) (bindO (Zdi p0s) (fun (y2:Int)=>(some (addI .i64 y2 1)))) (iteB (eqI (lenS p1substr) 1) (bindO (atS p1substr 0) (fun (y2:Int)=>bindO (Zdw (p0s,y2)) (fun (y3:Int)=>(some y3)))) (Zb6.l6 p0s p1substr 0)):=by kernel_rfl
abbrev Zan.ps:List PT:=[.val (.str),.val (.str),.val (.int .i64),.val (.int .i64)]
abbrev Zan.ros:List (ResultVar × RO):=[(.tmp 8,.val (.sl .str))]
def Zan.env:Env:={ L:=tlist,G:=glist,C:=[(223,Zet.en),(224,Zb6.en),(225,Zcx.en)] }
def Zan.an:Ann:={ lp:=[(11,[0,1,2,3,9,10])],jn:=[(7,[0,1,2,3]),(17,[0,9,10])],sc:=[],kp:=[] }
def Zan.code:Code:=Tryz.f174.body.getD .skip
def Zan (x:ByteArray × ByteArray × Int × Int):zt13:=fnR Zan.env Zan.an Zan.code Zan.ps Zan.ros x
noncomputable abbrev Zan.en:Zda:=entry Zan.ps Zan.ros Zan
theorem Zan.envC:EnvC Tryz.prog Zan.env:=(cns (cns (cns (.nilG lay_ok Zbh) Zcx.sat) Zb6.sat) Zet.sat)
theorem Zan.sat:SatC Tryz.prog glist 174 Zan.en:=satY (fn:=Tryz.f174) (c:=Zan.code) (An:=Zan.an) Zan.envC (by kernel_rfl) (by kernel_rfl)
noncomputable abbrev Zan.J:=FJ Zan.env Zan.an Zan.code Zan.ps Zan.ros
noncomputable abbrev Zan.L:=FL Zan.env Zan.an Zan.code Zan.ps Zan.ros
def Zan.j7 (h0 h1:ByteArray) (h2 h3:Int):zt13:=Zan.J [1,1,1,1] (St.mk ((0,(vs h0)) :: ((1,(vs h1)) :: ((2,(V.val zt9 h2)) :: ((3,(V.val zt9 h3)) :: [])))) [] 0)
def Zan.l11 (h0 h1:ByteArray) (h2 h3 h4:Int) (h5:(List ByteArray)):zt13:=Zan.L [1,1,1,1,1,1,1,1,0,0] (St.mk ((0,(vs h0)) :: ((1,(vs h1)) :: ((2,(V.val zt9 h2)) :: ((3,(V.val zt9 h3)) :: ((9,(V.arr 0)) :: ((10,(V.val zt9 h4)) :: [])))))) ((0,(some (Bx.rows Ty.str h5))) :: []) 1)
def Zan.j17 (h0:ByteArray) (h1:Int) (h2:(List ByteArray)):zt13:=Zan.J [1,1,1,1,1,1,1,1,1] (St.mk ((0,(vs h0)) :: ((9,(V.arr 0)) :: ((10,(V.val zt9 h1)) :: []))) ((0,(some (Bx.rows Ty.str h2))) :: []) 1)
theorem Zan.j7_eq (h0 h1:ByteArray) (h2 h3:Int):Zan.j7 h0 h1 h2 h3 = iteB (eqI (minI h3 (addI .i64 (lenS h0) 1)) (minI h3 (addI .i64 (lenS h0) 1))) (iteB (roomN (minI h3 (addI .i64 (lenS h0) 1))) (Zan.l11 h0 h1 h2 (subI .i64 (minI h3 (addI .i64 (lenS h0) 1)) 1) 0 (repL (minI h3 (addI .i64 (lenS h0) 1)) (bs []))) (none)) (none):=Zdn (by kernel_rfl)
theorem Zan.l11_eq (h0 h1:ByteArray) (h2 h3 h4:Int) (h5:(List ByteArray)):Zan.l11 h0 h1 h2 h3 h4 h5 = iteB (ltI h4 h3) (bindO (Zcx (h0,h1)) (fun (y6:Int)=>iteB (ltI y6 0) (Zan.j17 h0 h4 h5) (iteB (Zfs 0 (addI .i64 y6 h2) (lenS h0)) (iteB (leI 0 h4) (iteB (ltI h4 (lenL h5)) (bindO (atL h5 h4) (fun (y7:ByteArray)=>iteB (Zfs (addI .i64 y6 (lenS h1)) (lenS h0) (lenS h0)) (Zan.l11 (cutS h0 (addI .i64 y6 (lenS h1)) (lenS h0)) h1 h2 h3 (addI .i64 h4 1) (setL h5 h4 (cutS h0 0 (addI .i64 y6 h2)))) (none))) (none)) (none)) (none)))) (Zan.j17 h0 h4 h5):=(Zcg Zan.envC.ok.nat _ _ _).trans (by kernel_rfl)
theorem Zan.j17_eq (h0:ByteArray) (h1:Int) (h2:(List ByteArray)):Zan.j17 h0 h1 h2 = iteB (leI 0 h1) (iteB (ltI h1 (lenL h2)) (bindO (atL h2 h1) (fun (y3:ByteArray)=>iteB (Zfs 0 (addI .i64 h1 1) (lenL (setL h2 h1 h0))) ((some (cutL (setL h2 h1 h0) 0 (addI .i64 h1 1)))) (none))) (none)) (none):=Zdn (by kernel_rfl)
theorem strings_genSplit_eq (p0s p1sep:ByteArray) (p2sepSave p3n:Int):Zan ((p0s,(p1sep,(p2sepSave,p3n)))) = iteB (eqI p3n 0) ((some [])) (iteB (eqS p1sep (bs [])) (bindO (Zet (p0s,p3n)) (fun (y4:(List ByteArray))=>(some y4))) (iteB (ltI p3n 0) (bindO (Zb6 (p0s,p1sep)) (fun (y4:Int)=>Zan.j7 p0s p1sep p2sepSave (addI .i64 y4 1))) (Zan.j7 p0s p1sep p2sepSave p3n))):=by kernel_rfl
abbrev Zc8.ps:List PT:=[.val (.str),.val (.str)]
abbrev Zc8.ros:List (ResultVar × RO):=[(.tmp 4,.val (.sl .str))]
def Zc8.env:Env:={ L:=tlist,G:=glist,C:=[(174,Zan.en)] }
def Zc8.an:Ann:={ lp:=[],jn:=[],sc:=[],kp:=[] }
def Zc8.code:Code:=Tryz.f129.body.getD .skip
def Zc8 (x:ByteArray × ByteArray):zt13:=fnR Zc8.env Zc8.an Zc8.code Zc8.ps Zc8.ros x
noncomputable abbrev Zc8.en:Zda:=entry Zc8.ps Zc8.ros Zc8
theorem Zc8.envC:EnvC Tryz.prog Zc8.env:=(cns (.nilG lay_ok Zbh) Zan.sat)
theorem Zc8.sat:SatC Tryz.prog glist 129 Zc8.en:=satY (fn:=Tryz.f129) (c:=Zc8.code) (An:=Zc8.an) Zc8.envC (by kernel_rfl) (by kernel_rfl)
theorem strings_Split_eq (p0s p1sep:ByteArray):Zc8 ((p0s,p1sep)) = bindO (Zan (p0s,(p1sep,(0,(-1))))) (fun (y2:(List ByteArray))=>(some y2)):=by kernel_rfl
abbrev Zby.ps:List PT:=[.val (.str)]
abbrev Zby.ros:List (ResultVar × RO):=[(.tmp 2,.val (.bool))]
def Zby.env:Env:={ L:=tlist,G:=glist,C:=[(129,Zc8.en),(155,Zbk.en)] }
def Zby.an:Ann:={ lp:=[(3,[3,8,9,10])],jn:=[(8,[3])],sc:=[],kp:=[] }
def Zby.code:Code:=Tryz.f113.body.getD .skip
def Zby (x:ByteArray):(Option Bool):=fnR Zby.env Zby.an Zby.code Zby.ps Zby.ros x
noncomputable abbrev Zby.en:Zda:=entry Zby.ps Zby.ros Zby
theorem Zby.envC:EnvC Tryz.prog Zby.env:=(cns (cns (.nilG lay_ok Zbh) Zbk.sat) Zc8.sat)
theorem Zby.sat:SatC Tryz.prog glist 113 Zby.en:=satY (fn:=Tryz.f113) (c:=Zby.code) (An:=Zby.an) Zby.envC (by kernel_rfl) (by kernel_rfl)
noncomputable abbrev Zby.J:=FJ Zby.env Zby.an Zby.code Zby.ps Zby.ros
noncomputable abbrev Zby.L:=FL Zby.env Zby.an Zby.code Zby.ps Zby.ros
def Zby.l3 (h0 h1:(List ByteArray)) (h2 h3:Int):(Option Bool):=Zby.L [1,1,0,1,0] (St.mk ((3,(V.val (Ty.sl Ty.str) h0)) :: ((8,(V.val (Ty.sl Ty.str) h1)) :: ((9,(V.val zt9 h2)) :: ((10,(V.val zt9 h3)) :: [])))) [] 0)
def Zby.j8 (h0:(List ByteArray)):(Option Bool):=Zby.J [1,1,1] (St.mk ((3,(V.val (Ty.sl Ty.str) h0)) :: []) [] 0)
theorem Zby.l3_eq (h0 h1:(List ByteArray)) (h2 h3:Int):Zby.l3 h0 h1 h2 h3 = iteB (ltI h3 h2) (bindO (atL h1 h3) (fun (y4:ByteArray)=>bindO (Zbk y4) (fun (y5:Bool)=>iteB (notB y5) ((some Bool.false)) (Zby.l3 h0 h1 h2 (addI .i64 h3 1))))) (Zby.j8 h0):=(Zcg Zby.envC.ok.nat _ _ _).trans (by kernel_rfl)
theorem Zby.j8_eq (h0:(List ByteArray)):Zby.j8 h0 = (some (leI (lenL h0) 4)):=Zdn (by kernel_rfl)
theorem impl_tagsOk_eq (p0s:ByteArray):Zby (p0s) = bindO (Zc8 (p0s,(bs [44]))) (fun (y1:(List ByteArray))=>Zby.l3 y1 y1 (lenL y1) 0):=by kernel_rfl
abbrev Zbw.ps:List PT:=[.val zt42,.val zt32]
abbrev Zbw.ros:List (ResultVar × RO):=[(.tmp 4,.val (.bool))]
def Zbw.env:Env:={ L:=tlist,G:=glist,C:=[(109,Zav.en),(110,Zat.en),(111,Za5.en),(112,Zde.en),(113,Zby.en)] }
def Zbw.an:Ann:={ lp:=[(4,[0,18,19,20])],jn:=[(16,[0,18,19,20]),(17,[])],sc:=[],kp:=[] }
def Zbw.code:Code:=Tryz.f63.body.getD .skip
def Zbw (x:zt24 × zt39):(Option Bool):=fnR Zbw.env Zbw.an Zbw.code Zbw.ps Zbw.ros x
noncomputable abbrev Zbw.en:Zda:=entry Zbw.ps Zbw.ros Zbw
theorem Zbw.envC:EnvC Tryz.prog Zbw.env:=(cns (cns (cns (cns (cns (.nilG lay_ok Zbh) Zby.sat) Zde.sat) Za5.sat) Zat.sat) Zav.sat)
theorem Zbw.sat:SatC Tryz.prog glist 63 Zbw.en:=satY (fn:=Tryz.f63) (c:=Zbw.code) (An:=Zbw.an) Zbw.envC (by kernel_rfl) (by kernel_rfl)
noncomputable abbrev Zbw.J:=FJ Zbw.env Zbw.an Zbw.code Zbw.ps Zbw.ros
noncomputable abbrev Zbw.L:=FL Zbw.env Zbw.an Zbw.code Zbw.ps Zbw.ros
def Zbw.l4 (h0:zt24) (h1:zt22) (h2 h3:Int):(Option Bool):=Zbw.L [1,1,0,1,0] (St.mk ((0,(V.val zt69 h0)) :: ((18,(V.val zt20 h1)) :: ((19,(V.val zt9 h2)) :: ((20,(V.val zt9 h3)) :: [])))) [] 0)
def Zbw.j16 (h0:zt24) (h1:zt22) (h2 h3:Int):(Option Bool):=Zbw.J [1,1,0,1,0,0,1,1,1] (St.mk ((0,(V.val zt69 h0)) :: ((18,(V.val zt20 h1)) :: ((19,(V.val zt9 h2)) :: ((20,(V.val zt9 h3)) :: [])))) [] 0)
def Zbw.j17:(Option Bool):=Zbw.J [1,1,1] (St.mk [] [] 0)
theorem Zbw.l4_eq (h0:zt24) (h1:zt22) (h2 h3:Int):Zbw.l4 h0 h1 h2 h3 = iteB (ltI h3 h2) (bindO (atL h1 h3) (fun (y4:zt10)=>bindO (Za5 (h0,y4.1)) (fun (y5:zt12)=>iteB (eqI y5.2.1 1) (Zbw.j16 h0 h1 h2 h3) (iteB (eqI y5.2.1 2) (bindO (Zde y4.2) (fun (y6:(Int × Bool))=>iteB (notB y6.2) ((some Bool.false)) (Zbw.j16 h0 h1 h2 h3))) (iteB (eqI y5.2.1 3) (bindO (Zby y4.2) (fun (y6:Bool)=>iteB (notB y6) ((some Bool.false)) (Zbw.j16 h0 h1 h2 h3))) ((some Bool.false))))))) (Zbw.j17):=(Zcg Zbw.envC.ok.nat _ _ _).trans (by kernel_rfl)
theorem Zbw.j16_eq (h0:zt24) (h1:zt22) (h2 h3:Int):Zbw.j16 h0 h1 h2 h3 = Zbw.l4 h0 h1 h2 (addI .i64 h3 1):=Zdn (by kernel_rfl)
theorem Zbw.j17_eq:Zbw.j17  = (some Bool.true):=Zdn (by kernel_rfl)
theorem impl_DocOk_eq (p0fields:zt24) (p1d:zt39):Zbw ((p0fields,p1d)) = bindO (Zav p0fields) (fun (y2:Bool)=>iteB (notB y2) ((some Bool.false)) (bindO (Zat (p1d.1,p1d.2)) (fun (y3:Bool)=>iteB (notB y3) ((some Bool.false)) (Zbw.l4 p0fields p1d.2 (lenL p1d.2) 0)))):=by kernel_rfl
abbrev Zch.ps:List PT:=[.val zt50,.rc .str]
abbrev Zch.ros:List (ResultVar × RO):=[(.tmp 3,.val (.bool))]
def Zch.env:Env:={ L:=tlist,G:=glist,C:=[] }
def Zch.an:Ann:={ lp:=[],jn:=[],sc:=[],kp:=[] }
def Zch.code:Code:=Tryz.f216.body.getD .skip
def Zch (x:zt44 × ByteArray):(Option Bool):=fnR Zch.env Zch.an Zch.code Zch.ps Zch.ros x
noncomputable abbrev Zch.en:Zda:=entry Zch.ps Zch.ros Zch
theorem Zch.envC:EnvC Tryz.prog Zch.env:=(.nilG lay_ok Zbh)
theorem Zch.sat:SatC Tryz.prog glist 216 Zch.en:=satY (fn:=Tryz.f216) (c:=Zch.code) (An:=Zch.an) Zch.envC (by kernel_rfl) (by kernel_rfl)
theorem impl_Index_row_1_eq (p0r:zt44) (p1:ByteArray):Zch ((p0r,p1)) = (some (eqS p0r.2.1 p1)):=by kernel_rfl
abbrev Zad.ps:List PT:=[.val zt55,.fn 216 [.rc .str]]
abbrev Zad.ros:List (ResultVar × RO):=[(.tmp 4,.val (.int .i64))]
def Zad.env:Env:={ L:=tlist,G:=glist,C:=[(216,Zch.en)] }
def Zad.an:Ann:={ lp:=[(2,[0,1,7,8])],jn:=[(7,[])],sc:=[],kp:=[] }
def Zad.code:Code:=Tryz.f215.body.getD .skip
def Zad (x:zt51 × ByteArray):(Option Int):=fnR Zad.env Zad.an Zad.code Zad.ps Zad.ros x
noncomputable abbrev Zad.en:Zda:=entry Zad.ps Zad.ros Zad
theorem Zad.envC:EnvC Tryz.prog Zad.env:=(cns (.nilG lay_ok Zbh) Zch.sat)
theorem Zad.sat:SatC Tryz.prog glist 215 Zad.en:=satY (fn:=Tryz.f215) (c:=Zad.code) (An:=Zad.an) Zad.envC (by kernel_rfl) (by kernel_rfl)
noncomputable abbrev Zad.J:=FJ Zad.env Zad.an Zad.code Zad.ps Zad.ros
noncomputable abbrev Zad.L:=FL Zad.env Zad.an Zad.code Zad.ps Zad.ros
def Zad.l2 (h0:zt51) (h1:ByteArray) (h2 h3:Int):(Option Int):=Zad.L [1,0,1,0] (St.mk ((0,(V.val zt70 h0)) :: ((1,(V.fn 216 ((V.rc ((vs h1) :: [])) :: []))) :: ((7,(V.val zt9 h2)) :: ((8,(V.val zt9 h3)) :: [])))) [] 0)
def Zad.j7:(Option Int):=Zad.J [1,1] (St.mk [] [] 0)
theorem Zad.l2_eq (h0:zt51) (h1:ByteArray) (h2 h3:Int):Zad.l2 h0 h1 h2 h3 = iteB (ltI h3 h2) (bindO (atL h0 h3) (fun (y4:zt44)=>bindO (Zch (y4,h1)) (fun (y5:Bool)=>iteB y5 ((some h3)) (Zad.l2 h0 h1 h2 (addI .i64 h3 1))))) (Zad.j7):=(Zcg Zad.envC.ok.nat _ _ _).trans (by kernel_rfl)
theorem Zad.j7_eq:Zad.j7  = (some (-1)):=Zdn (by kernel_rfl)
theorem Zfx (p0s:zt51) (p1f:ByteArray):Zad ((p0s,p1f)) = Zad.l2 p0s p1f (lenL p0s) 0:=by kernel_rfl
abbrev Zcy.ps:List PT:=[.val zt81,.val (.str)]
abbrev Zcy.ros:List (ResultVar × RO):=[(.tmp 4,.val (.int .i64))]
def Zcy.env:Env:={ L:=tlist,G:=glist,C:=[(216,Zch.en),(215,Zad.en)] }
def Zcy.an:Ann:={ lp:=[],jn:=[],sc:=[],kp:=[] }
def Zcy.code:Code:=Tryz.f167.body.getD .skip
def Zcy (x:zt77 × ByteArray):(Option Int):=fnR Zcy.env Zcy.an Zcy.code Zcy.ps Zcy.ros x
noncomputable abbrev Zcy.en:Zda:=entry Zcy.ps Zcy.ros Zcy
theorem Zcy.envC:EnvC Tryz.prog Zcy.env:=(cns (cns (.nilG lay_ok Zbh) Zad.sat) Zch.sat)
theorem Zcy.sat:SatC Tryz.prog glist 167 Zcy.en:=satY (fn:=Tryz.f167) (c:=Zcy.code) (An:=Zcy.an) Zcy.envC (by kernel_rfl) (by kernel_rfl)
theorem impl_Index_row_eq (p0x:zt77) (p1key:ByteArray):Zcy ((p0x,p1key)) = bindO (Zad (p0x.2.1,p1key)) (fun (y2:Int)=>(some y2)):=by kernel_rfl
abbrev Zdo.ps:List PT:=[.val (.int .u8)]
abbrev Zdo.ros:List (ResultVar × RO):=[(.tmp 2,.val (.bool))]
def Zdo.env:Env:={ L:=tlist,G:=glist,C:=[] }
def Zdo.an:Ann:={ lp:=[],jn:=[],sc:=[],kp:=[] }
def Zdo.code:Code:=Tryz.f295.body.getD .skip
def Zdo (x:Int):(Option Bool):=fnR Zdo.env Zdo.an Zdo.code Zdo.ps Zdo.ros x
noncomputable abbrev Zdo.en:Zda:=entry Zdo.ps Zdo.ros Zdo
theorem Zdo.envC:EnvC Tryz.prog Zdo.env:=(.nilG lay_ok Zbh)
theorem Zdo.sat:SatC Tryz.prog glist 295 Zdo.en:=satY (fn:=Tryz.f295) (c:=Zdo.code) (An:=Zdo.an) Zdo.envC (by kernel_rfl) (by kernel_rfl)
theorem impl_upper_eq (p0b:Int):Zdo (p0b) = iteB (leI 65 p0b) ((some (leI p0b 90))) ((some Bool.false)):=by kernel_rfl
abbrev Zc6.ps:List PT:=[.val (.int .u8)]
abbrev Zc6.ros:List (ResultVar × RO):=[(.tmp 2,.val (.bool))]
def Zc6.env:Env:={ L:=tlist,G:=glist,C:=[(295,Zdo.en),(202,Zdq.en),(203,Zdp.en)] }
def Zc6.an:Ann:={ lp:=[],jn:=[],sc:=[],kp:=[] }
def Zc6.code:Code:=Tryz.f278.body.getD .skip
def Zc6 (x:Int):(Option Bool):=fnR Zc6.env Zc6.an Zc6.code Zc6.ps Zc6.ros x
noncomputable abbrev Zc6.en:Zda:=entry Zc6.ps Zc6.ros Zc6
theorem Zc6.envC:EnvC Tryz.prog Zc6.env:=(cns (cns (cns (.nilG lay_ok Zbh) Zdp.sat) Zdq.sat) Zdo.sat)
theorem Zc6.sat:SatC Tryz.prog glist 278 Zc6.en:=satY (fn:=Tryz.f278) (c:=Zc6.code) (An:=Zc6.an) Zc6.envC (by kernel_rfl) (by kernel_rfl)
theorem impl_wordByte_eq (p0b:Int):Zc6 (p0b) = bindO (Zdo p0b) (fun (y1:Bool)=>iteB y1 ((some Bool.true)) (bindO (Zdq p0b) (fun (y2:Bool)=>iteB y2 ((some Bool.true)) (bindO (Zdp p0b) (fun (y3:Bool)=>(some y3)))))):=by kernel_rfl
abbrev Zbb.ps:List PT:=[.val (.str)]
abbrev Zbb.ros:List (ResultVar × RO):=[(.tmp 2,.own zt37)]
def Zbb.env:Env:={ L:=tlist,G:=glist,C:=[(278,Zc6.en)] }
def Zbb.an:Ann:={ lp:=[(3,[0,3,4]),(6,[0,3,4,5])],jn:=[(4,[0,3,4]),(8,[0,3,4,5]),(10,[3])],sc:=[],kp:=[] }
def Zbb.code:Code:=Tryz.f247.body.getD .skip
def Zbb (x:ByteArray):zt35:=fnR Zbb.env Zbb.an Zbb.code Zbb.ps Zbb.ros x
noncomputable abbrev Zbb.en:Zda:=entry Zbb.ps Zbb.ros Zbb
theorem Zbb.envC:EnvC Tryz.prog Zbb.env:=(cns (.nilG lay_ok Zbh) Zc6.sat)
theorem Zbb.sat:SatC Tryz.prog glist 247 Zbb.en:=satY (fn:=Tryz.f247) (c:=Zbb.code) (An:=Zbb.an) Zbb.envC (by kernel_rfl) (by kernel_rfl)
noncomputable abbrev Zbb.J:=FJ Zbb.env Zbb.an Zbb.code Zbb.ps Zbb.ros
noncomputable abbrev Zbb.L:=FL Zbb.env Zbb.an Zbb.code Zbb.ps Zbb.ros
def Zbb.l3 (h0:ByteArray) (h1:Int) (h2:zt24):zt35:=Zbb.L [1,1,0,1,0] (St.mk ((0,(vs h0)) :: ((3,(V.arr 0)) :: ((4,(V.val zt9 h1)) :: []))) ((0,(some (Bx.rows zt64 h2))) :: []) 1)
def Zbb.l6 (h0:ByteArray) (h1 h2:Int) (h3:zt24):zt35:=Zbb.L [1,1,0,1,0,0,1,0,0,1,0,0] (St.mk ((0,(vs h0)) :: ((3,(V.arr 0)) :: ((4,(V.val zt9 h1)) :: ((5,(V.val zt9 h2)) :: [])))) ((0,(some (Bx.rows zt64 h3))) :: []) 1)
def Zbb.j10 (h0:zt24):zt35:=Zbb.J [1,1,1] (St.mk ((3,(V.arr 0)) :: []) ((0,(some (Bx.rows zt64 h0))) :: []) 1)
def Zbb.j8 (h0:ByteArray) (h1 h2:Int) (h3:zt24):zt35:=Zbb.J [1,1,0,1,0,0,1,0,0,1,1] (St.mk ((0,(vs h0)) :: ((3,(V.arr 0)) :: ((4,(V.val zt9 h1)) :: ((5,(V.val zt9 h2)) :: [])))) ((0,(some (Bx.rows zt64 h3))) :: []) 1)
def Zbb.j4 (h0:ByteArray) (h1:Int) (h2:zt24):zt35:=Zbb.J [1,1,0,1,0,0,1,1] (St.mk ((0,(vs h0)) :: ((3,(V.arr 0)) :: ((4,(V.val zt9 h1)) :: []))) ((0,(some (Bx.rows zt64 h2))) :: []) 1)
theorem Zbb.l3_eq (h0:ByteArray) (h1:Int) (h2:zt24):Zbb.l3 h0 h1 h2 = iteB (ltI h1 (lenS h0)) (Zbb.l6 h0 h1 h1 h2) (Zbb.j10 h2):=(Zcg Zbb.envC.ok.nat _ _ _).trans (by kernel_rfl)
theorem Zbb.l6_eq (h0:ByteArray) (h1 h2:Int) (h3:zt24):Zbb.l6 h0 h1 h2 h3 = iteB (ltI h1 (lenS h0)) (bindO (atS h0 h1) (fun (y4:Int)=>bindO (Zc6 y4) (fun (y5:Bool)=>iteB y5 (Zbb.l6 h0 (addI .i64 h1 1) h2 h3) (Zbb.j8 h0 h1 h2 h3)))) (Zbb.j8 h0 h1 h2 h3):=(Zcg Zbb.envC.ok.nat _ _ _).trans (by kernel_rfl)
theorem Zbb.j10_eq (h0:zt24):Zbb.j10 h0 = (some h0):=Zdn (by kernel_rfl)
theorem Zbb.j8_eq (h0:ByteArray) (h1 h2:Int) (h3:zt24):Zbb.j8 h0 h1 h2 h3 = iteB (ltI h2 h1) (iteB (Zfs h2 h1 (lenS h0)) (iteB (Zek h3 (((cutS h0 h2 h1),(h2,h1)) :: [])) (Zbb.j4 h0 h1 (appL h3 (((cutS h0 h2 h1),(h2,h1)) :: []))) (none)) (none)) (Zbb.j4 h0 h1 h3):=Zdn (by kernel_rfl)
theorem Zbb.j4_eq (h0:ByteArray) (h1:Int) (h2:zt24):Zbb.j4 h0 h1 h2 = Zbb.l3 h0 (addI .i64 h1 1) h2:=Zdn (by kernel_rfl)
theorem impl_Words_eq (p0s:ByteArray):Zbb (p0s) = Zbb.l3 p0s 0 []:=by kernel_rfl
abbrev Zce.ps:List PT:=[.val (.str)]
abbrev Zce.ros:List (ResultVar × RO):=[(.tmp 2,.val (.str))]
def Zce.env:Env:={ L:=tlist,G:=glist,C:=[(295,Zdo.en)] }
def Zce.an:Ann:={ lp:=[(3,[3,8,9,10])],jn:=[(7,[3,8,9,10]),(8,[3])],sc:=[],kp:=[] }
def Zce.code:Code:=Tryz.f267.body.getD .skip
def Zce (x:ByteArray):zt1:=fnR Zce.env Zce.an Zce.code Zce.ps Zce.ros x
noncomputable abbrev Zce.en:Zda:=entry Zce.ps Zce.ros Zce
theorem Zce.envC:EnvC Tryz.prog Zce.env:=(cns (.nilG lay_ok Zbh) Zdo.sat)
theorem Zce.sat:SatC Tryz.prog glist 267 Zce.en:=satY (fn:=Tryz.f267) (c:=Zce.code) (An:=Zce.an) Zce.envC (by kernel_rfl) (by kernel_rfl)
noncomputable abbrev Zce.J:=FJ Zce.env Zce.an Zce.code Zce.ps Zce.ros
noncomputable abbrev Zce.L:=FL Zce.env Zce.an Zce.code Zce.ps Zce.ros
def Zce.l3 (h0 h1:Int) (h2:(List Int)):zt1:=Zce.L [1,1,0,1,0] (St.mk ((3,(V.arr 0)) :: ((8,(V.arr 0)) :: ((9,(V.val zt9 h0)) :: ((10,(V.val zt9 h1)) :: [])))) ((0,(some (Bx.rows zt8 h2))) :: []) 1)
def Zce.j7 (h0 h1:Int) (h2:(List Int)):zt1:=Zce.J [1,1,0,1,0,0,1,1,1] (St.mk ((3,(V.arr 0)) :: ((8,(V.arr 0)) :: ((9,(V.val zt9 h0)) :: ((10,(V.val zt9 h1)) :: [])))) ((0,(some (Bx.rows zt8 h2))) :: []) 1)
def Zce.j8 (h0:(List Int)):zt1:=Zce.J [1,1,1] (St.mk ((3,(V.arr 0)) :: []) ((0,(some (Bx.rows zt8 h0))) :: []) 1)
theorem Zce.l3_eq (h0 h1:Int) (h2:(List Int)):Zce.l3 h0 h1 h2 = iteB (ltI h1 h0) (iteB (leI 0 h1) (iteB (ltI h1 (lenL h2)) (bindO (atL h2 h1) (fun (y3:Int)=>bindO (Zdo y3) (fun (y4:Bool)=>iteB y4 (iteB (leI 0 h1) (iteB (ltI h1 (lenL h2)) (bindO (atL h2 h1) (fun (y5:Int)=>Zce.j7 h0 h1 (setL h2 h1 (subI .u8 (addI .u8 y3 97) 65)))) (none)) (none)) (Zce.j7 h0 h1 h2)))) (none)) (none)) (Zce.j8 h2):=(Zcg Zce.envC.ok.nat _ _ _).trans (by kernel_rfl)
theorem Zce.j7_eq (h0 h1:Int) (h2:(List Int)):Zce.j7 h0 h1 h2 = Zce.l3 h0 (addI .i64 h1 1) h2:=Zdn (by kernel_rfl)
theorem Zce.j8_eq (h0:(List Int)):Zce.j8 h0 = (some (strOf h0)):=Zdn (by kernel_rfl)
theorem impl_Fold_eq (p0s:ByteArray):Zce (p0s) = Zce.l3 (lenL (Zgb p0s)) 0 (Zgb p0s):=by kernel_rfl
abbrev Zc3.ps:List PT:=[.val (.str)]
abbrev Zc3.ros:List (ResultVar × RO):=[(.tmp 2,.val (.str))]
def Zc3.env:Env:={ L:=tlist,G:=glist,C:=[(267,Zce.en),(156,Zao.en)] }
def Zc3.an:Ann:={ lp:=[],jn:=[(6,[0])],sc:=[],kp:=[] }
def Zc3.code:Code:=Tryz.f248.body.getD .skip
def Zc3 (x:ByteArray):zt1:=fnR Zc3.env Zc3.an Zc3.code Zc3.ps Zc3.ros x
noncomputable abbrev Zc3.en:Zda:=entry Zc3.ps Zc3.ros Zc3
theorem Zc3.envC:EnvC Tryz.prog Zc3.env:=(cns (cns (.nilG lay_ok Zbh) Zao.sat) Zce.sat)
theorem Zc3.sat:SatC Tryz.prog glist 248 Zc3.en:=satY (fn:=Tryz.f248) (c:=Zc3.code) (An:=Zc3.an) Zc3.envC (by kernel_rfl) (by kernel_rfl)
noncomputable abbrev Zc3.J:=FJ Zc3.env Zc3.an Zc3.code Zc3.ps Zc3.ros
def Zc3.j6 (h0:ByteArray):zt1:=Zc3.J [1,1,1,1] (St.mk ((0,(vs h0)) :: []) [] 0)
theorem Zc3.j6_eq (h0:ByteArray):Zc3.j6 h0 = bindO (Zao (((bs [97]) :: ((bs [97,110]) :: ((bs [97,110,100]) :: ((bs [111,102]) :: ((bs [116,104,101]) :: ((bs [116,111]) :: [])))))),h0)) (fun (y1:Bool)=>iteB y1 ((some (bs []))) ((some h0))):=Zdn (by kernel_rfl)
theorem impl_Stem_eq (p0s:ByteArray):Zc3 (p0s) = bindO (Zce p0s) (fun (y1:ByteArray)=>iteB (Zfs 0 (minI (lenS y1) 12) (lenS y1)) (iteB (ltI 3 (lenS (cutS y1 0 (minI (lenS y1) 12)))) (bindO (atS (cutS y1 0 (minI (lenS y1) 12)) (subI .i64 (lenS (cutS y1 0 (minI (lenS y1) 12))) 1)) (fun (y2:Int)=>iteB (eqI y2 115) (bindO (atS (cutS y1 0 (minI (lenS y1) 12)) (subI .i64 (lenS (cutS y1 0 (minI (lenS y1) 12))) 2)) (fun (y3:Int)=>iteB (notB (eqI y3 115)) (iteB (Zfs 0 (subI .i64 (lenS (cutS y1 0 (minI (lenS y1) 12))) 1) (lenS (cutS y1 0 (minI (lenS y1) 12)))) (Zc3.j6 (cutS (cutS y1 0 (minI (lenS y1) 12)) 0 (subI .i64 (lenS (cutS y1 0 (minI (lenS y1) 12))) 1))) (none)) (Zc3.j6 (cutS y1 0 (minI (lenS y1) 12))))) (Zc3.j6 (cutS y1 0 (minI (lenS y1) 12))))) (Zc3.j6 (cutS y1 0 (minI (lenS y1) 12)))) (none)):=by kernel_rfl
abbrev Zb5.ps:List PT:=[.val (.str)]
abbrev Zb5.ros:List (ResultVar × RO):=[(.tmp 2,.own (.str))]
def Zb5.env:Env:={ L:=tlist,G:=glist,C:=[(247,Zbb.en),(248,Zc3.en)] }
def Zb5.an:Ann:={ lp:=[(3,[3,8,9,10])],jn:=[(7,[3])],sc:=[],kp:=[] }
def Zb5.code:Code:=Tryz.f217.body.getD .skip
def Zb5 (x:ByteArray):zt13:=fnR Zb5.env Zb5.an Zb5.code Zb5.ps Zb5.ros x
noncomputable abbrev Zb5.en:Zda:=entry Zb5.ps Zb5.ros Zb5
theorem Zb5.envC:EnvC Tryz.prog Zb5.env:=(cns (cns (.nilG lay_ok Zbh) Zc3.sat) Zbb.sat)
theorem Zb5.sat:SatC Tryz.prog glist 217 Zb5.en:=satY (fn:=Tryz.f217) (c:=Zb5.code) (An:=Zb5.an) Zb5.envC (by kernel_rfl) (by kernel_rfl)
noncomputable abbrev Zb5.J:=FJ Zb5.env Zb5.an Zb5.code Zb5.ps Zb5.ros
noncomputable abbrev Zb5.L:=FL Zb5.env Zb5.an Zb5.code Zb5.ps Zb5.ros
def Zb5.l3 (h0 h1:Int) (h2:zt24) (h3:(List ByteArray)):zt13:=Zb5.L [1,1,0,1,0] (St.mk ((3,(V.arr 0)) :: ((8,(V.arr 1)) :: ((9,(V.val zt9 h0)) :: ((10,(V.val zt9 h1)) :: [])))) ((1,(some (Bx.rows zt64 h2))) :: ((0,(some (Bx.rows Ty.str h3))) :: [])) 2)
def Zb5.j7 (h0:(List ByteArray)):zt13:=Zb5.J [1,1,1] (St.mk ((3,(V.arr 0)) :: []) ((0,(some (Bx.rows Ty.str h0))) :: []) 1)
theorem Zb5.l3_eq (h0 h1:Int) (h2:zt24) (h3:(List ByteArray)):Zb5.l3 h0 h1 h2 h3 = iteB (ltI h1 h0) (iteB (leI 0 h1) (iteB (ltI h1 (lenL h2)) (bindO (atL h2 h1) (fun (y4:zt12)=>bindO (Zc3 y4.1) (fun (y5:ByteArray)=>iteB (Zek h3 (y5 :: [])) (Zb5.l3 h0 (addI .i64 h1 1) h2 (appL h3 (y5 :: []))) (none)))) (none)) (none)) (Zb5.j7 h3):=(Zcg Zb5.envC.ok.nat _ _ _).trans (by kernel_rfl)
theorem Zb5.j7_eq (h0:(List ByteArray)):Zb5.j7 h0 = (some h0):=Zdn (by kernel_rfl)
theorem impl_Terms_eq (p0s:ByteArray):Zb5 (p0s) = bindO (Zbb p0s) (fun (y1:zt24)=>Zb5.l3 (lenL y1) 0 y1 []):=by kernel_rfl
abbrev Zb4.ps:List PT:=[.val (.str)]
abbrev Zb4.ros:List (ResultVar × RO):=[(.tmp 2,.val (.bool))]
def Zb4.env:Env:={ L:=tlist,G:=[],C:=[] }
def Zb4.an:Ann:={ lp:=[],jn:=[],sc:=[],kp:=[] }
def Zb4.code:Code:=Tryz.f131.body.getD .skip
def Zb4 (x:ByteArray):(Option Bool):=fnR Zb4.env Zb4.an Zb4.code Zb4.ps Zb4.ros x
noncomputable abbrev Zb4.en:Zda:=entry Zb4.ps Zb4.ros Zb4
theorem Zb4.envC:EnvC Tryz.prog Zb4.env:=(.nil lay_ok)
theorem Zb4.sat0:SatC Tryz.prog [] 131 Zb4.en:=satY (fn:=Tryz.f131) (c:=Zb4.code) (An:=Zb4.an) Zb4.envC (by kernel_rfl) (by kernel_rfl)
theorem Zb4.sat:SatC Tryz.prog glist 131 Zb4.en:=satC_G Zb4.sat0
theorem cmp_isNaN_string_eq (p0x:ByteArray):Zb4 (p0x) = (some (notB (eqS p0x p0x))):=by kernel_rfl
abbrev Zbr.ps:List PT:=[.val (.str),.val (.str)]
abbrev Zbr.ros:List (ResultVar × RO):=[(.tmp 4,.val (.int .i64))]
def Zbr.env:Env:={ L:=tlist,G:=[],C:=[(131,Zb4.en)] }
def Zbr.an:Ann:={ lp:=[],jn:=[],sc:=[],kp:=[] }
def Zbr.code:Code:=Tryz.f86.body.getD .skip
def Zbr (x:ByteArray × ByteArray):(Option Int):=fnR Zbr.env Zbr.an Zbr.code Zbr.ps Zbr.ros x
noncomputable abbrev Zbr.en:Zda:=entry Zbr.ps Zbr.ros Zbr
theorem Zbr.envC:EnvC Tryz.prog Zbr.env:=(cns (.nil lay_ok) Zb4.sat0)
theorem Zbr.sat0:SatC Tryz.prog [] 86 Zbr.en:=satY (fn:=Tryz.f86) (c:=Zbr.code) (An:=Zbr.an) Zbr.envC (by kernel_rfl) (by kernel_rfl)
theorem Zbr.sat:SatC Tryz.prog glist 86 Zbr.en:=satC_G Zbr.sat0
theorem cmp_Compare_string_eq (p0x p1y:ByteArray):Zbr ((p0x,p1y)) = bindO (Zb4 p0x) (fun (y2:Bool)=>bindO (Zb4 p1y) (fun (y3:Bool)=>iteB y2 (iteB y3 ((some 0)) ((some (-1)))) (iteB y3 ((some 1)) (iteB (ltS p0x p1y) ((some (-1))) (iteB (ltS p1y p0x) ((some 1)) ((some 0))))))):=by kernel_rfl
abbrev Zb2.ps:List PT:=[.val (.sl (.int .i64))]
abbrev Zb2.ros:List (ResultVar × RO):=[(.tmp 2,.val (.int .i64))]
def Zb2.env:Env:={ L:=tlist,G:=[],C:=[] }
def Zb2.an:Ann:={ lp:=[(3,[3,6,7,8])],jn:=[(8,[3])],sc:=[],kp:=[] }
def Zb2.code:Code:=Tryz.f85.body.getD .skip
def Zb2 (x:(List Int)):(Option Int):=fnR Zb2.env Zb2.an Zb2.code Zb2.ps Zb2.ros x
noncomputable abbrev Zb2.en:Zda:=entry Zb2.ps Zb2.ros Zb2
theorem Zb2.envC:EnvC Tryz.prog Zb2.env:=(.nil lay_ok)
theorem Zb2.sat0:SatC Tryz.prog [] 85 Zb2.en:=satY (fn:=Tryz.f85) (c:=Zb2.code) (An:=Zb2.an) Zb2.envC (by kernel_rfl) (by kernel_rfl)
theorem Zb2.sat:SatC Tryz.prog glist 85 Zb2.en:=satC_G Zb2.sat0
noncomputable abbrev Zb2.J:=FJ Zb2.env Zb2.an Zb2.code Zb2.ps Zb2.ros
noncomputable abbrev Zb2.L:=FL Zb2.env Zb2.an Zb2.code Zb2.ps Zb2.ros
def Zb2.l3 (h0:Int) (h1:(List Int)) (h2 h3:Int):(Option Int):=Zb2.L [1,1,0,1,0] (St.mk ((3,(V.val zt9 h0)) :: ((6,(V.val zt23 h1)) :: ((7,(V.val zt9 h2)) :: ((8,(V.val zt9 h3)) :: [])))) [] 0)
def Zb2.j8 (h0:Int):(Option Int):=Zb2.J [1,1,1] (St.mk ((3,(V.val zt9 h0)) :: []) [] 0)
theorem Zb2.l3_eq (h0:Int) (h1:(List Int)) (h2 h3:Int):Zb2.l3 h0 h1 h2 h3 = iteB (ltI h3 h2) (bindO (atL h1 h3) (fun (y4:Int)=>iteB (notB (eqI y4 h0)) ((some y4)) (Zb2.l3 h0 h1 h2 (addI .i64 h3 1)))) (Zb2.j8 h0):=(Zcg Zb2.envC.ok.nat _ _ _).trans (by kernel_rfl)
theorem Zb2.j8_eq (h0:Int):Zb2.j8 h0 = (some h0):=Zdn (by kernel_rfl)
theorem cmp_Or_int_eq (p0vals:(List Int)):Zb2 (p0vals) = Zb2.l3 0 p0vals (lenL p0vals) 0:=by kernel_rfl
abbrev Zcl.ps:List PT:=[.val zt59,.val zt59]
abbrev Zcl.ros:List (ResultVar × RO):=[(.tmp 4,.val (.int .i64))]
def Zcl.env:Env:={ L:=tlist,G:=[],C:=[(86,Zbr.en),(85,Zb2.en)] }
def Zcl.an:Ann:={ lp:=[],jn:=[],sc:=[(1,[(0,true),(1,true),(2,true),(3,true),(5,true),(6,true),(7,true),(8,true),(4,false),(9,false),(10,false),(11,false),(12,false)])],kp:=[] }
def Zcl.code:Code:=Tryz.f219.body.getD .skip
def Zcl (x:zt45 × zt45):(Option Int):=fnR Zcl.env Zcl.an Zcl.code Zcl.ps Zcl.ros x
noncomputable abbrev Zcl.en:Zda:=entry Zcl.ps Zcl.ros Zcl
theorem Zcl.envC:EnvC Tryz.prog Zcl.env:=(cns (cns (.nil lay_ok) Zb2.sat0) Zbr.sat0)
theorem Zcl.sat0:SatC Tryz.prog [] 219 Zcl.en:=satY (fn:=Tryz.f219) (c:=Zcl.code) (An:=Zcl.an) Zcl.envC (by kernel_rfl) (by kernel_rfl)
theorem Zcl.sat:SatC Tryz.prog glist 219 Zcl.en:=satC_G Zcl.sat0
theorem impl_entries_1_eq (p0a p1b:zt45):Zcl ((p0a,p1b)) = bindO (Zbr (p0a.1,p1b.1)) (fun (y2:Int)=>bindO (Zbr (p0a.2.1,p1b.2.1)) (fun (y3:Int)=>bindO (Zb2 (y2 :: (y3 :: []))) (fun (y4:Int)=>(some y4)))):=by kernel_rfl
theorem isNaN_ok (a:ByteArray):Zb4 a = some false:=by rw [cmp_isNaN_string_eq]; simp [notB,eqS]
theorem compare_ok (a b:ByteArray):Zbr (a,b) = some (cmpV a b):=by
 rw [cmp_Compare_string_eq,isNaN_ok,Zac,isNaN_ok,Zac,Ze7,Ze7]
 unfold cmpV
 cases h1:ltS a b <;> cases h2:ltS b a <;> rfl
theorem or2_ok (x y:Int):Zb2 (x :: (y :: ([]:List Int))) = some (if x = 0 then y else x):=by
 have e2:lenL (x :: (y :: ([]:List Int))) = 2:=rfl
 rw [cmp_Or_int_eq,e2,Zb2.l3_eq,Zah,if_pos (by decide),show atL (x :: (y :: ([]:List Int))) 0 = some x from rfl,Zac,Zck,Zci]
 by_cases h:x = 0
 · rw [if_pos h,if_pos h,show addI .i64 0 1 = 1 by decide,Zb2.l3_eq,Zah,if_pos (by decide),show atL (x :: (y :: ([]:List Int))) 1 = some y from rfl,Zac,Zck,Zci]
   by_cases k:y = 0
   · rw [if_pos k,show addI .i64 1 1 = 2 by decide,Zb2.l3_eq,Zah,if_neg (by decide),Zb2.j8_eq,k]
   · rw [if_neg k]
 · rw [if_neg h,if_neg h]
theorem entCmp_ok (a b:Ent):Zcl (a,b) = some (cfE a b):=by
 rw [impl_entries_1_eq,compare_ok,Zac,compare_ok,Zac,or2_ok,Zac]
 rfl
def Zcz (x:D (Zdt (([.io zt59,.fn 219 []]:List PT).map PT.ty))):Option (D (Zdt (([]:List RO).map RO.ty ++ Zdg [.io zt59,.fn 219 []]))):=sortC cfE x.1
noncomputable abbrev Zcz.en:Zda:=entry [.io zt59,.fn 219 []] [] Zcz
theorem Zcz.sat:SatC Tryz.prog glist 218 (Zcz.en) :=
 sort_sat (τ:=.pr (.str) zt47) (G:=glist) Tryz.sortEnt rfl (by decide) Tryz.isAgg140 Tryz.sizeOf140 swo_cfE (⟨#[]⟩,(⟨#[]⟩,[])) [.string ⟨#[]⟩,.string ⟨#[]⟩,.slice none 0 0] (fun F w=>by
  refine ⟨[.string ⟨#[]⟩],[.string ⟨#[]⟩,.slice none 0 0],rfl,rfl,[.string ⟨#[]⟩],[.slice none 0 0],rfl,rfl,none,0,rfl,Nat.le_refl _,fun _=>rfl,fun ad e=>nomatch e⟩)
  Zcl.sat0 (fun x y=>by
   show bindO (Zcl (x,y)) _ = _
   rw [entCmp_ok]; rfl) (fn:=Tryz.f219) (by kernel_rfl) (by kernel_rfl) (by kernel_rfl)
abbrev Zag.ps:List PT:=[.val zt42,.val zt55]
abbrev Zag.ros:List (ResultVar × RO):=[(.tmp 4,.own zt59)]
def Zag.env:Env:={ L:=tlist,G:=glist,dp:=true,dn:=[218],C:=[(111,Za5.en),(217,Zb5.en),(218,Zcz.en),(219,Zcl.en)] }
def Zag.an:Ann:={ lp:=[(3,[0,5,18,19,20]),(6,[0,5,7,18,19,20,26,27,28]),(10,[0,5,7,9,18,19,20,26,27,28,40,41,42]),(24,[14,101])],jn:=[(18,[0,5,7,9,11,12,18,19,20,26,27,28,40,41,42]),(19,[0,5,7,9,18,19,20,26,27,28,40,41,42]),(20,[0,5,7,18,19,20,26,27,28]),(21,[0,5,18,19,20]),(22,[5]),(27,[14])],sc:=[(15,[(0,false),(1,false),(2,false),(3,true),(4,true),(5,true),(6,true),(7,true),(8,false),(9,false),(10,false),(11,false)])],kp:=[] }
def Zag.code:Code:=Tryz.f169.body.getD .skip
def Zag (x:zt24 × zt51):zt63:=fnR Zag.env Zag.an Zag.code Zag.ps Zag.ros x
noncomputable abbrev Zag.en:Zda:=entry Zag.ps Zag.ros Zag
theorem Zag.envC:EnvC Tryz.prog Zag.env:=(EnvC.deep (cns (cns (cns (cns (.nilG lay_ok Zbh) Zcl.sat) Zcz.sat) Zb5.sat) Za5.sat))
theorem Zag.sat:SatC Tryz.prog glist 169 Zag.en:=satY (fn:=Tryz.f169) (c:=Zag.code) (An:=Zag.an) Zag.envC (by kernel_rfl) (by kernel_rfl)
noncomputable abbrev Zag.J:=FJ Zag.env Zag.an Zag.code Zag.ps Zag.ros
noncomputable abbrev Zag.L:=FL Zag.env Zag.an Zag.code Zag.ps Zag.ros
def Zag.l3 (h0:zt24) (h1:zt51) (h2 h3:Int) (h4:zt53):zt63:=Zag.L [1,1,0,1,0] (St.mk ((0,(V.val zt69 h0)) :: ((5,(V.map 0)) :: ((18,(V.val zt70 h1)) :: ((19,(V.val zt9 h2)) :: ((20,(V.val zt9 h3)) :: []))))) ((0,(some (Bx.mp zt6 zt65 h4))) :: []) 1)
def Zag.l6 (h0:zt24) (h1:zt51) (h2 h3:Int) (h4:zt22) (h5 h6 h7:Int) (h8:ByteArray) (h9:zt22) (h10:zt53):zt63:=Zag.L [1,1,0,1,0,0,1,1,0,0,1,1,0] (St.mk ((0,(V.val zt69 h0)) :: ((5,(V.map 0)) :: ((7,(V.ptr 1 0)) :: ((18,(V.val zt70 h1)) :: ((19,(V.val zt9 h2)) :: ((20,(V.val zt9 h3)) :: ((26,(V.val zt20 h4)) :: ((27,(V.val zt9 h5)) :: ((28,(V.val zt9 h6)) :: []))))))))) ((1,(some (Bx.cs ((V.val zt9 h7) :: ((vs h8) :: ((V.val zt20 h9) :: [])))))) :: ((0,(some (Bx.mp zt6 zt65 h10))) :: [])) 2)
def Zag.j22 (h0:zt53):zt63:=Zag.J [1,1,1] (St.mk ((5,(V.map 0)) :: []) ((0,(some (Bx.mp zt6 zt65 h0))) :: []) 1)
def Zag.j20 (h0:zt24) (h1:zt51) (h2 h3:Int) (h4:zt22) (h5 h6 h7:Int) (h8:ByteArray) (h9:zt22) (h10:zt53):zt63:=Zag.J [1,1,0,1,0,0,1,1,0,0,1,1,0,0,1,1,1] (St.mk ((0,(V.val zt69 h0)) :: ((5,(V.map 0)) :: ((7,(V.ptr 1 0)) :: ((18,(V.val zt70 h1)) :: ((19,(V.val zt9 h2)) :: ((20,(V.val zt9 h3)) :: ((26,(V.val zt20 h4)) :: ((27,(V.val zt9 h5)) :: ((28,(V.val zt9 h6)) :: []))))))))) ((1,(some (Bx.cs ((V.val zt9 h7) :: ((vs h8) :: ((V.val zt20 h9) :: [])))))) :: ((0,(some (Bx.mp zt6 zt65 h10))) :: [])) 2)
def Zag.l10 (h0:zt24) (h1:zt51) (h2 h3:Int) (h4:zt22) (h5 h6 h7 h8:Int) (h9:(List ByteArray)) (h10 h11:ByteArray) (h12:Int) (h13:ByteArray) (h14:zt22) (h15:zt53):zt63:=Zag.L [1,1,0,1,0,0,1,1,0,0,1,1,0,0,1,1,0,0,1,1,1,0] (St.mk ((0,(V.val zt69 h0)) :: ((5,(V.map 0)) :: ((7,(V.ptr 1 0)) :: ((9,(V.ptr 2 0)) :: ((18,(V.val zt70 h1)) :: ((19,(V.val zt9 h2)) :: ((20,(V.val zt9 h3)) :: ((26,(V.val zt20 h4)) :: ((27,(V.val zt9 h5)) :: ((28,(V.val zt9 h6)) :: ((40,(V.arr 3)) :: ((41,(V.val zt9 h7)) :: ((42,(V.val zt9 h8)) :: []))))))))))))) ((3,(some (Bx.rows Ty.str h9))) :: ((2,(some (Bx.cs ((vs h10) :: ((vs h11) :: []))))) :: ((1,(some (Bx.cs ((V.val zt9 h12) :: ((vs h13) :: ((V.val zt20 h14) :: [])))))) :: ((0,(some (Bx.mp zt6 zt65 h15))) :: [])))) 4)
def Zag.j21 (h0:zt24) (h1:zt51) (h2 h3:Int) (h4:zt53):zt63:=Zag.J [1,1,0,1,0,0,1,1,1] (St.mk ((0,(V.val zt69 h0)) :: ((5,(V.map 0)) :: ((18,(V.val zt70 h1)) :: ((19,(V.val zt9 h2)) :: ((20,(V.val zt9 h3)) :: []))))) ((0,(some (Bx.mp zt6 zt65 h4))) :: []) 1)
def Zag.l24 (h0:zt53) (h1:zt52):zt63:=Zag.L [1,1,1,1,0,1,0] (St.mk ((14,(V.arr 0)) :: ((101,(V.it 1)) :: [])) ((1,(some (Bx.mpi zt6 zt65 h0))) :: ((0,(some (Bx.dp zt73 h1))) :: [])) 2)
def Zag.j19 (h0:zt24) (h1:zt51) (h2 h3:Int) (h4:zt22) (h5 h6 h7 h8:Int) (h9:(List ByteArray)) (h10 h11:ByteArray) (h12:Int) (h13:ByteArray) (h14:zt22) (h15:zt53):zt63:=Zag.J [1,1,0,1,0,0,1,1,0,0,1,1,0,0,1,1,0,0,1,1,1,0,0,1,1,1] (St.mk ((0,(V.val zt69 h0)) :: ((5,(V.map 0)) :: ((7,(V.ptr 1 0)) :: ((9,(V.ptr 2 0)) :: ((18,(V.val zt70 h1)) :: ((19,(V.val zt9 h2)) :: ((20,(V.val zt9 h3)) :: ((26,(V.val zt20 h4)) :: ((27,(V.val zt9 h5)) :: ((28,(V.val zt9 h6)) :: ((40,(V.arr 3)) :: ((41,(V.val zt9 h7)) :: ((42,(V.val zt9 h8)) :: []))))))))))))) ((3,(some (Bx.rows Ty.str h9))) :: ((2,(some (Bx.cs ((vs h10) :: ((vs h11) :: []))))) :: ((1,(some (Bx.cs ((V.val zt9 h12) :: ((vs h13) :: ((V.val zt20 h14) :: [])))))) :: ((0,(some (Bx.mp zt6 zt65 h15))) :: [])))) 4)
def Zag.j18 (h0:zt24) (h1:ByteArray) (h2:zt51) (h3 h4:Int) (h5:zt22) (h6 h7 h8 h9:Int) (h10:(List ByteArray)) (h11:zt14) (h12 h13:ByteArray) (h14:Int) (h15:ByteArray) (h16:zt22) (h17:zt53) (h18:zt10):zt63:=Zag.J [1,1,0,1,0,0,1,1,0,0,1,1,0,0,1,1,0,0,1,1,1,0,0,1,1,0,0,1,1,1,1] (St.mk ((0,(V.val zt69 h0)) :: ((5,(V.map 0)) :: ((7,(V.ptr 1 0)) :: ((9,(V.ptr 2 0)) :: ((11,(vs h1)) :: ((12,(V.arr 3)) :: ((18,(V.val zt70 h2)) :: ((19,(V.val zt9 h3)) :: ((20,(V.val zt9 h4)) :: ((26,(V.val zt20 h5)) :: ((27,(V.val zt9 h6)) :: ((28,(V.val zt9 h7)) :: ((40,(V.arr 4)) :: ((41,(V.val zt9 h8)) :: ((42,(V.val zt9 h9)) :: []))))))))))))))) ((4,(some (Bx.rows Ty.str h10))) :: ((3,(some (Bx.dp zt56 h11))) :: ((2,(some (Bx.cs ((vs h12) :: ((vs h13) :: []))))) :: ((1,(some (Bx.cs ((V.val zt9 h14) :: ((vs h15) :: ((V.val zt20 h16) :: [])))))) :: ((0,(some (Bx.mpx zt6 zt65 h17 h18))) :: []))))) 5)
def Zag.j27 (h0:zt52):zt63:=Zag.J [1,1,1,1,1] (St.mk ((14,(V.arr 0)) :: []) ((0,(some (Bx.dp zt73 h0))) :: []) 1)
theorem Zag.l3_eq (h0:zt24) (h1:zt51) (h2 h3:Int) (h4:zt53):Zag.l3 h0 h1 h2 h3 h4 = iteB (ltI h3 h2) (bindO (atL h1 h3) (fun (y5:zt44)=>Zag.l6 h0 h1 h2 h3 y5.2.2 (lenL y5.2.2) 0 y5.1 y5.2.1 y5.2.2 h4)) (Zag.j22 h4):=(Zcg Zag.envC.ok.nat _ _ _).trans (by kernel_rfl)
theorem Zag.l6_eq (h0:zt24) (h1:zt51) (h2 h3:Int) (h4:zt22) (h5 h6 h7:Int) (h8:ByteArray) (h9:zt22) (h10:zt53):Zag.l6 h0 h1 h2 h3 h4 h5 h6 h7 h8 h9 h10 = iteB (ltI h6 h5) (bindO (atL h4 h6) (fun (y11:zt10)=>bindO (Za5 (h0,y11.1)) (fun (y12:zt12)=>iteB (notB (eqI y12.2.1 1)) (Zag.j20 h0 h1 h2 h3 h4 h5 h6 h7 h8 h9 h10) (bindO (Zb5 y11.2) (fun (y13:(List ByteArray))=>Zag.l10 h0 h1 h2 h3 h4 h5 h6 (lenL y13) 0 y13 y11.1 y11.2 h7 h8 h9 h10))))) (Zag.j21 h0 h1 h2 h3 h10):=(Zcg Zag.envC.ok.nat _ _ _).trans (by kernel_rfl)
theorem Zag.j22_eq (h0:zt53):Zag.j22 h0 = Zag.l24 h0 []:=Zdn (by kernel_rfl)
theorem Zag.j20_eq (h0:zt24) (h1:zt51) (h2 h3:Int) (h4:zt22) (h5 h6 h7:Int) (h8:ByteArray) (h9:zt22) (h10:zt53):Zag.j20 h0 h1 h2 h3 h4 h5 h6 h7 h8 h9 h10 = Zag.l6 h0 h1 h2 h3 h4 h5 (addI .i64 h6 1) h7 h8 h9 h10:=Zdn (by kernel_rfl)
theorem Zag.l10_eq (h0:zt24) (h1:zt51) (h2 h3:Int) (h4:zt22) (h5 h6 h7 h8:Int) (h9:(List ByteArray)) (h10 h11:ByteArray) (h12:Int) (h13:ByteArray) (h14:zt22) (h15:zt53):Zag.l10 h0 h1 h2 h3 h4 h5 h6 h7 h8 h9 h10 h11 h12 h13 h14 h15 = iteB (ltI h8 h7) (iteB (leI 0 h8) (iteB (ltI h8 (lenL h9)) (bindO (atL h9 h8) (fun (y16:ByteArray)=>iteB (eqS y16 (bs [])) (Zag.j19 h0 h1 h2 h3 h4 h5 h6 h7 h8 h9 h10 h11 h12 h13 h14 h15) (iteB (leI 0 (subI .i64 (lenL (getM zt6 zt65 h15 (h10,y16) [])) 1)) (iteB (leI 0 (subI .i64 (lenL (getM zt6 zt65 h15 (h10,y16) [])) 1)) (iteB (ltI (subI .i64 (lenL (getM zt6 zt65 h15 (h10,y16) [])) 1) (lenL (getM zt6 zt65 h15 (h10,y16) []))) (bindO (atL (getM zt6 zt65 h15 (h10,y16) []) (subI .i64 (lenL (getM zt6 zt65 h15 (h10,y16) [])) 1)) (fun (y17:zt2)=>iteB (eqI y17.1 h12) (iteB (leI 0 (subI .i64 (lenL (getM zt6 zt65 h15 (h10,y16) [])) 1)) (iteB (ltI (subI .i64 (lenL (getM zt6 zt65 h15 (h10,y16) [])) 1) (lenL (getM zt6 zt65 h15 (h10,y16) []))) (bindO (atL (getM zt6 zt65 h15 (h10,y16) []) (subI .i64 (lenL (getM zt6 zt65 h15 (h10,y16) [])) 1)) (fun (y18:zt2)=>iteB (Zek y18.2 (h8 :: [])) (iteB (leI 0 (subI .i64 (lenL (getM zt6 zt65 h15 (h10,y16) [])) 1)) (iteB (ltI (subI .i64 (lenL (getM zt6 zt65 h15 (h10,y16) [])) 1) (lenL (getM zt6 zt65 h15 (h10,y16) []))) (iteB (eqI (subI .i64 (lenL (getM zt6 zt65 h15 (h10,y16) [])) 1) (subI .i64 (lenL (getM zt6 zt65 h15 (h10,y16) [])) 1)) (Zag.j18 h0 y16 h1 h2 h3 h4 h5 h6 h7 h8 h9 (setL (getM zt6 zt65 h15 (h10,y16) []) (subI .i64 (lenL (getM zt6 zt65 h15 (h10,y16) [])) 1) (y18.1,(appL y18.2 (h8 :: [])))) h10 h11 h12 h13 h14 h15 (h10,y16)) (none)) (none)) (none)) (none))) (none)) (none)) (iteB (Zek (getM zt6 zt65 h15 (h10,y16) []) ((h12,(h8 :: [])) :: [])) (Zag.j18 h0 y16 h1 h2 h3 h4 h5 h6 h7 h8 h9 (appL (getM zt6 zt65 h15 (h10,y16) []) ((h12,(h8 :: [])) :: [])) h10 h11 h12 h13 h14 h15 (h10,y16)) (none)))) (none)) (none)) (iteB (Zek (getM zt6 zt65 h15 (h10,y16) []) ((h12,(h8 :: [])) :: [])) (Zag.j18 h0 y16 h1 h2 h3 h4 h5 h6 h7 h8 h9 (appL (getM zt6 zt65 h15 (h10,y16) []) ((h12,(h8 :: [])) :: [])) h10 h11 h12 h13 h14 h15 (h10,y16)) (none))))) (none)) (none)) (Zag.j20 h0 h1 h2 h3 h4 h5 h6 h12 h13 h14 h15):=(Zcg Zag.envC.ok.nat _ _ _).trans (by kernel_rfl)
theorem Zag.j21_eq (h0:zt24) (h1:zt51) (h2 h3:Int) (h4:zt53):Zag.j21 h0 h1 h2 h3 h4 = Zag.l3 h0 h1 h2 (addI .i64 h3 1) h4:=Zdn (by kernel_rfl)
theorem Zag.l24_eq (h0:zt53) (h1:zt52):Zag.l24 h0 h1 = pickK h0 (Zag.j27 h1) (fun (y2:zt46) (z2:zt53)=>iteB (Zek h1 ((y2.1.1,(y2.1.2,y2.2)) :: [])) (Zag.l24 z2 (appL h1 ((y2.1.1,(y2.1.2,y2.2)) :: []))) (none)):=(Zcg Zag.envC.ok.nat _ _ _).trans (by kernel_rfl)
theorem Zag.j19_eq (h0:zt24) (h1:zt51) (h2 h3:Int) (h4:zt22) (h5 h6 h7 h8:Int) (h9:(List ByteArray)) (h10 h11:ByteArray) (h12:Int) (h13:ByteArray) (h14:zt22) (h15:zt53):Zag.j19 h0 h1 h2 h3 h4 h5 h6 h7 h8 h9 h10 h11 h12 h13 h14 h15 = Zag.l10 h0 h1 h2 h3 h4 h5 h6 h7 (addI .i64 h8 1) h9 h10 h11 h12 h13 h14 h15:=Zdn (by kernel_rfl)
theorem Zag.j18_eq (h0:zt24) (h1:ByteArray) (h2:zt51) (h3 h4:Int) (h5:zt22) (h6 h7 h8 h9:Int) (h10:(List ByteArray)) (h11:zt14) (h12 h13:ByteArray) (h14:Int) (h15:ByteArray) (h16:zt22) (h17:zt53) (h18:zt10):Zag.j18 h0 h1 h2 h3 h4 h5 h6 h7 h8 h9 h10 h11 h12 h13 h14 h15 h16 h17 h18 = iteB (eqK zt6 (h12,h1) h18) (Zag.j19 h0 h2 h3 h4 h5 h6 h7 h8 h9 h10 h12 h13 h14 h15 h16 (putM zt6 zt65 h17 (h12,h1) h11)) (none):=Zdn (by kernel_rfl)
theorem Zag.j27_eq (h0:zt52):Zag.j27 h0 = bindO (Zcz (h0,PUnit.unit)) (fun (y1:zt52)=>(some y1)):=Zdn (by kernel_rfl)
theorem impl_entries_eq (p0fields:zt24) (p1rows:zt51):Zag ((p0fields,p1rows)) = Zag.l3 p0fields p1rows (lenL p1rows) 0 []:=by kernel_rfl
abbrev Zai.ps:List PT:=[.val (.sl (.int .i64)),.val (.sl (.int .i64))]
abbrev Zai.ros:List (ResultVar × RO):=[(.tmp 4,.val (.bool))]
def Zai.env:Env:={ L:=tlist,G:=glist,C:=[] }
def Zai.an:Ann:={ lp:=[(4,[0,1,12,13])],jn:=[(9,[])],sc:=[(6,[(0,true),(1,true),(2,true),(3,true),(4,true),(5,false),(6,false),(7,false),(8,false)])],kp:=[] }
def Zai.code:Code:=Tryz.f250.body.getD .skip
def Zai (x:(List Int) × (List Int)):(Option Bool):=fnR Zai.env Zai.an Zai.code Zai.ps Zai.ros x
noncomputable abbrev Zai.en:Zda:=entry Zai.ps Zai.ros Zai
theorem Zai.envC:EnvC Tryz.prog Zai.env:=(.nilG lay_ok Zbh)
theorem Zai.sat:SatC Tryz.prog glist 250 Zai.en:=satY (fn:=Tryz.f250) (c:=Zai.code) (An:=Zai.an) Zai.envC (by kernel_rfl) (by kernel_rfl)
noncomputable abbrev Zai.J:=FJ Zai.env Zai.an Zai.code Zai.ps Zai.ros
noncomputable abbrev Zai.L:=FL Zai.env Zai.an Zai.code Zai.ps Zai.ros
def Zai.l4 (h0 h1:(List Int)) (h2 h3:Int):(Option Bool):=Zai.L [1,1,0,1,0] (St.mk ((0,(V.val zt23 h0)) :: ((1,(V.val zt23 h1)) :: ((12,(V.val zt9 h2)) :: ((13,(V.val zt9 h3)) :: [])))) [] 0)
def Zai.j9:(Option Bool):=Zai.J [1,1,1] (St.mk [] [] 0)
theorem Zai.l4_eq (h0 h1:(List Int)) (h2 h3:Int):Zai.l4 h0 h1 h2 h3 = iteB (ltI h3 h2) (bindO (atL h0 h3) (fun (y4:Int)=>bindO (atL h1 h3) (fun (y5:Int)=>iteB (notB (eqI y4 y5)) ((some Bool.false)) (Zai.l4 h0 h1 h2 (addI .i64 h3 1))))) (Zai.j9):=(Zcg Zai.envC.ok.nat _ _ _).trans (by kernel_rfl)
theorem Zai.j9_eq:Zai.j9  = (some Bool.true):=Zdn (by kernel_rfl)
theorem Zi0 (p0s1 p1s2:(List Int)):Zai ((p0s1,p1s2)) = iteB (notB (eqI (lenL p0s1) (lenL p1s2))) ((some Bool.false)) (Zai.l4 p0s1 p1s2 (lenL p0s1) 0):=by kernel_rfl
abbrev Zc2.ps:List PT:=[.val zt30,.val zt30]
abbrev Zc2.ros:List (ResultVar × RO):=[(.tmp 4,.val (.bool))]
def Zc2.env:Env:={ L:=tlist,G:=glist,C:=[(250,Zai.en)] }
def Zc2.an:Ann:={ lp:=[],jn:=[],sc:=[],kp:=[] }
def Zc2.code:Code:=Tryz.f221.body.getD .skip
def Zc2 (x:zt2 × zt2):(Option Bool):=fnR Zc2.env Zc2.an Zc2.code Zc2.ps Zc2.ros x
noncomputable abbrev Zc2.en:Zda:=entry Zc2.ps Zc2.ros Zc2
theorem Zc2.envC:EnvC Tryz.prog Zc2.env:=(cns (.nilG lay_ok Zbh) Zai.sat)
theorem Zc2.sat:SatC Tryz.prog glist 221 Zc2.en:=satY (fn:=Tryz.f221) (c:=Zc2.code) (An:=Zc2.an) Zc2.envC (by kernel_rfl) (by kernel_rfl)
theorem impl_samePost_eq (p0a p1b:zt2):Zc2 ((p0a,p1b)) = iteB (eqI p0a.1 p1b.1) (bindO (Zai (p0a.2,p1b.2)) (fun (y2:Bool)=>(some y2))) ((some Bool.false)):=by kernel_rfl
abbrev Zab.ps:List PT:=[.val zt34,.val zt34,.fn 221 []]
abbrev Zab.ros:List (ResultVar × RO):=[(.tmp 6,.val (.bool))]
def Zab.env:Env:={ L:=tlist,G:=glist,C:=[(221,Zc2.en)] }
def Zab.an:Ann:={ lp:=[(4,[1,2,15,16,17])],jn:=[(10,[])],sc:=[],kp:=[] }
def Zab.code:Code:=Tryz.f220.body.getD .skip
def Zab (x:zt14 × zt14 × PUnit):(Option Bool):=fnR Zab.env Zab.an Zab.code Zab.ps Zab.ros x
noncomputable abbrev Zab.en:Zda:=entry Zab.ps Zab.ros Zab
theorem Zab.envC:EnvC Tryz.prog Zab.env:=(cns (.nilG lay_ok Zbh) Zc2.sat)
theorem Zab.sat:SatC Tryz.prog glist 220 Zab.en:=satY (fn:=Tryz.f220) (c:=Zab.code) (An:=Zab.an) Zab.envC (by kernel_rfl) (by kernel_rfl)
noncomputable abbrev Zab.J:=FJ Zab.env Zab.an Zab.code Zab.ps Zab.ros
noncomputable abbrev Zab.L:=FL Zab.env Zab.an Zab.code Zab.ps Zab.ros
def Zab.l4 (h0 h1:zt14) (h2 h3:Int):(Option Bool):=Zab.L [1,1,0,1,0] (St.mk ((1,(V.val zt65 h0)) :: ((2,(V.fn 221 [])) :: ((15,(V.val zt65 h1)) :: ((16,(V.val zt9 h2)) :: ((17,(V.val zt9 h3)) :: []))))) [] 0)
def Zab.j10:(Option Bool):=Zab.J [1,1,1] (St.mk [] [] 0)
theorem Zab.l4_eq (h0 h1:zt14) (h2 h3:Int):Zab.l4 h0 h1 h2 h3 = iteB (ltI h3 h2) (bindO (atL h1 h3) (fun (y4:zt2)=>bindO (atL h0 h3) (fun (y5:zt2)=>bindO (Zc2 ((y4.1,y4.2),(y5.1,y5.2))) (fun (y6:Bool)=>iteB (notB y6) ((some Bool.false)) (Zab.l4 h0 h1 h2 (addI .i64 h3 1)))))) (Zab.j10):=(Zcg Zab.envC.ok.nat _ _ _).trans (by kernel_rfl)
theorem Zab.j10_eq:Zab.j10  = (some Bool.true):=Zdn (by kernel_rfl)
theorem Zeh (p0s1 p1s2:zt14) (p2eq:PUnit):Zab ((p0s1,(p1s2,p2eq))) = iteB (notB (eqI (lenL p0s1) (lenL p1s2))) ((some Bool.false)) (Zab.l4 p1s2 p0s1 (lenL p0s1) 0):=by kernel_rfl
abbrev Zcu.ps:List PT:=[.val zt59,.val zt59]
abbrev Zcu.ros:List (ResultVar × RO):=[(.tmp 4,.val (.bool))]
def Zcu.env:Env:={ L:=tlist,G:=glist,C:=[(220,Zab.en),(221,Zc2.en)] }
def Zcu.an:Ann:={ lp:=[],jn:=[],sc:=[],kp:=[] }
def Zcu.code:Code:=Tryz.f170.body.getD .skip
def Zcu (x:zt45 × zt45):(Option Bool):=fnR Zcu.env Zcu.an Zcu.code Zcu.ps Zcu.ros x
noncomputable abbrev Zcu.en:Zda:=entry Zcu.ps Zcu.ros Zcu
theorem Zcu.envC:EnvC Tryz.prog Zcu.env:=(cns (cns (.nilG lay_ok Zbh) Zc2.sat) Zab.sat)
theorem Zcu.sat:SatC Tryz.prog glist 170 Zcu.en:=satY (fn:=Tryz.f170) (c:=Zcu.code) (An:=Zcu.an) Zcu.envC (by kernel_rfl) (by kernel_rfl)
theorem impl_sameEntry_eq (p0a p1b:zt45):Zcu ((p0a,p1b)) = iteB (eqS p0a.1 p1b.1) (iteB (eqS p0a.2.1 p1b.2.1) (bindO (Zab (p0a.2.2,(p1b.2.2,PUnit.unit))) (fun (y2:Bool)=>(some y2))) ((some Bool.false))) ((some Bool.false)):=by kernel_rfl
abbrev Zaa.ps:List PT:=[.val zt66,.val zt66,.fn 170 []]
abbrev Zaa.ros:List (ResultVar × RO):=[(.tmp 6,.val (.bool))]
def Zaa.env:Env:={ L:=tlist,G:=glist,C:=[(170,Zcu.en)] }
def Zaa.an:Ann:={ lp:=[(4,[1,2,15,16,17])],jn:=[(10,[])],sc:=[],kp:=[] }
def Zaa.code:Code:=Tryz.f168.body.getD .skip
def Zaa (x:zt52 × zt52 × PUnit):(Option Bool):=fnR Zaa.env Zaa.an Zaa.code Zaa.ps Zaa.ros x
noncomputable abbrev Zaa.en:Zda:=entry Zaa.ps Zaa.ros Zaa
theorem Zaa.envC:EnvC Tryz.prog Zaa.env:=(cns (.nilG lay_ok Zbh) Zcu.sat)
theorem Zaa.sat:SatC Tryz.prog glist 168 Zaa.en:=satY (fn:=Tryz.f168) (c:=Zaa.code) (An:=Zaa.an) Zaa.envC (by kernel_rfl) (by kernel_rfl)
noncomputable abbrev Zaa.J:=FJ Zaa.env Zaa.an Zaa.code Zaa.ps Zaa.ros
noncomputable abbrev Zaa.L:=FL Zaa.env Zaa.an Zaa.code Zaa.ps Zaa.ros
def Zaa.l4 (h0 h1:zt52) (h2 h3:Int):(Option Bool):=Zaa.L [1,1,0,1,0] (St.mk ((1,(V.val zt74 h0)) :: ((2,(V.fn 170 [])) :: ((15,(V.val zt74 h1)) :: ((16,(V.val zt9 h2)) :: ((17,(V.val zt9 h3)) :: []))))) [] 0)
def Zaa.j10:(Option Bool):=Zaa.J [1,1,1] (St.mk [] [] 0)
theorem Zaa.l4_eq (h0 h1:zt52) (h2 h3:Int):Zaa.l4 h0 h1 h2 h3 = iteB (ltI h3 h2) (bindO (atL h1 h3) (fun (y4:zt45)=>bindO (atL h0 h3) (fun (y5:zt45)=>bindO (Zcu ((y4.1,(y4.2.1,y4.2.2)),(y5.1,(y5.2.1,y5.2.2)))) (fun (y6:Bool)=>iteB (notB y6) ((some Bool.false)) (Zaa.l4 h0 h1 h2 (addI .i64 h3 1)))))) (Zaa.j10):=(Zcg Zaa.envC.ok.nat _ _ _).trans (by kernel_rfl)
theorem Zaa.j10_eq:Zaa.j10  = (some Bool.true):=Zdn (by kernel_rfl)
theorem Zec (p0s1 p1s2:zt52) (p2eq:PUnit):Zaa ((p0s1,(p1s2,p2eq))) = iteB (notB (eqI (lenL p0s1) (lenL p1s2))) ((some Bool.false)) (Zaa.l4 p1s2 p0s1 (lenL p0s1) 0):=by kernel_rfl
abbrev Zbe.ps:List PT:=[.val zt81]
abbrev Zbe.ros:List (ResultVar × RO):=[(.tmp 2,.val (.bool))]
def Zbe.env:Env:={ L:=tlist,G:=glist,C:=[(109,Zav.en),(59,Zcm.en),(63,Zbw.en),(167,Zcy.en),(169,Zag.en),(168,Zaa.en),(170,Zcu.en)] }
def Zbe.an:Ann:={ lp:=[(4,[1,22,23,24])],jn:=[(9,[1])],sc:=[(6,[(0,true),(1,true),(2,false),(3,false),(4,false),(5,false),(6,false),(7,false),(8,false),(9,false),(10,false),(11,true),(12,true),(13,true),(14,true),(15,true),(16,true),(17,true),(18,false),(19,false),(20,false),(21,false),(22,false),(23,false),(24,true),(25,true),(26,false),(27,false),(28,false),(29,false),(30,false),(31,false),(32,true),(33,true),(34,true),(35,true),(37,true),(36,false),(38,false),(39,false)]),(9,[(0,true),(1,true),(2,true),(3,true),(4,false),(5,false),(6,false),(7,false),(8,false)])],kp:=[] }
def Zbe.code:Code:=Tryz.f126.body.getD .skip
def Zbe (x:zt77):(Option Bool):=fnR Zbe.env Zbe.an Zbe.code Zbe.ps Zbe.ros x
noncomputable abbrev Zbe.en:Zda:=entry Zbe.ps Zbe.ros Zbe
theorem Zbe.envC:EnvC Tryz.prog Zbe.env:=(cns (cns (cns (cns (cns (cns (cns (.nilG lay_ok Zbh) Zcu.sat) Zaa.sat) Zag.sat) Zcy.sat) Zbw.sat) Zcm.sat) Zav.sat)
theorem Zbe.sat:SatC Tryz.prog glist 126 Zbe.en:=satY (fn:=Tryz.f126) (c:=Zbe.code) (An:=Zbe.an) Zbe.envC (by kernel_rfl) (by kernel_rfl)
noncomputable abbrev Zbe.J:=FJ Zbe.env Zbe.an Zbe.code Zbe.ps Zbe.ros
noncomputable abbrev Zbe.L:=FL Zbe.env Zbe.an Zbe.code Zbe.ps Zbe.ros
def Zbe.l4 (h0:zt51) (h1 h2:Int) (h3:zt24) (h4:zt51) (h5:zt52) (h6:Int):(Option Bool):=Zbe.L [1,1,0,1,0] (St.mk ((1,(V.ptr 0 0)) :: ((22,(V.val zt70 h0)) :: ((23,(V.val zt9 h1)) :: ((24,(V.val zt9 h2)) :: [])))) ((0,(some (Bx.cs ((V.val zt69 h3) :: ((V.val zt70 h4) :: ((V.val zt74 h5) :: ((V.val zt9 h6) :: []))))))) :: []) 1)
def Zbe.j9 (h0:zt24) (h1:zt51) (h2:zt52) (h3:Int):(Option Bool):=Zbe.J [1,1,1] (St.mk ((1,(V.ptr 0 0)) :: []) ((0,(some (Bx.cs ((V.val zt69 h0) :: ((V.val zt70 h1) :: ((V.val zt74 h2) :: ((V.val zt9 h3) :: []))))))) :: []) 1)
theorem Zbe.l4_eq (h0:zt51) (h1 h2:Int) (h3:zt24) (h4:zt51) (h5:zt52) (h6:Int):Zbe.l4 h0 h1 h2 h3 h4 h5 h6 = iteB (ltI h2 h1) (bindO (atL h0 h2) (fun (y7:zt44)=>bindO (Zcm (y7.1,(0,(subI .i64 h6 1)))) (fun (y8:Bool)=>iteB (notB y8) ((some Bool.false)) (iteB (ltI 0 h2) (bindO (atL h4 (subI .i64 h2 1)) (fun (y9:zt44)=>iteB (leI y7.1 y9.1) ((some Bool.false)) (bindO (Zbw (h3,(y7.2.1,y7.2.2))) (fun (y10:Bool)=>iteB (notB y10) ((some Bool.false)) (bindO (Zcy ((h3,(h4,(h5,h6))),y7.2.1)) (fun (y11:Int)=>iteB (notB (eqI y11 h2)) ((some Bool.false)) (Zbe.l4 h0 h1 (addI .i64 h2 1) h3 h4 h5 h6))))))) (bindO (Zbw (h3,(y7.2.1,y7.2.2))) (fun (y9:Bool)=>iteB (notB y9) ((some Bool.false)) (bindO (Zcy ((h3,(h4,(h5,h6))),y7.2.1)) (fun (y10:Int)=>iteB (notB (eqI y10 h2)) ((some Bool.false)) (Zbe.l4 h0 h1 (addI .i64 h2 1) h3 h4 h5 h6))))))))) (Zbe.j9 h3 h4 h5 h6):=(Zcg Zbe.envC.ok.nat _ _ _).trans (by kernel_rfl)
theorem Zbe.j9_eq (h0:zt24) (h1:zt51) (h2:zt52) (h3:Int):Zbe.j9 h0 h1 h2 h3 = bindO (Zag (h0,h1)) (fun (y4:zt52)=>bindO (Zaa (h2,(y4,PUnit.unit))) (fun (y5:Bool)=>(some y5))):=Zdn (by kernel_rfl)
theorem impl_IndexOk_eq (p0x:zt77):Zbe (p0x) = bindO (Zav p0x.1) (fun (y1:Bool)=>iteB (notB y1) ((some Bool.false)) (iteB (ltI 8 (lenL p0x.2.1)) ((some Bool.false)) (bindO (Zcm (p0x.2.2.2,(0,999999999))) (fun (y2:Bool)=>iteB (notB y2) ((some Bool.false)) (Zbe.l4 p0x.2.1 (lenL p0x.2.1) 0 p0x.1 p0x.2.1 p0x.2.2.1 p0x.2.2.2))))):=by kernel_rfl
abbrev Zak.ps:List PT:=[.val (.sl (.int .i64)),.val (.int .i64)]
abbrev Zak.ros:List (ResultVar × RO):=[(.tmp 4,.val (.int .i64))]
def Zak.env:Env:={ L:=tlist,G:=glist,C:=[] }
def Zak.an:Ann:={ lp:=[(2,[0,1,7,8])],jn:=[(7,[])],sc:=[],kp:=[] }
def Zak.code:Code:=Tryz.f171.body.getD .skip
def Zak (x:(List Int) × Int):(Option Int):=fnR Zak.env Zak.an Zak.code Zak.ps Zak.ros x
noncomputable abbrev Zak.en:Zda:=entry Zak.ps Zak.ros Zak
theorem Zak.envC:EnvC Tryz.prog Zak.env:=(.nilG lay_ok Zbh)
theorem Zak.sat:SatC Tryz.prog glist 171 Zak.en:=satY (fn:=Tryz.f171) (c:=Zak.code) (An:=Zak.an) Zak.envC (by kernel_rfl) (by kernel_rfl)
noncomputable abbrev Zak.J:=FJ Zak.env Zak.an Zak.code Zak.ps Zak.ros
noncomputable abbrev Zak.L:=FL Zak.env Zak.an Zak.code Zak.ps Zak.ros
def Zak.l2 (h0:(List Int)) (h1 h2 h3:Int):(Option Int):=Zak.L [1,0,1,0] (St.mk ((0,(V.val zt23 h0)) :: ((1,(V.val zt9 h1)) :: ((7,(V.val zt9 h2)) :: ((8,(V.val zt9 h3)) :: [])))) [] 0)
def Zak.j7:(Option Int):=Zak.J [1,1] (St.mk [] [] 0)
theorem Zak.l2_eq (h0:(List Int)) (h1 h2 h3:Int):Zak.l2 h0 h1 h2 h3 = iteB (ltI h3 h2) (bindO (atL h0 h3) (fun (y4:Int)=>iteB (eqI h1 y4) ((some h3)) (Zak.l2 h0 h1 h2 (addI .i64 h3 1)))) (Zak.j7):=(Zcg Zak.envC.ok.nat _ _ _).trans (by kernel_rfl)
theorem Zak.j7_eq:Zak.j7  = (some (-1)):=Zdn (by kernel_rfl)
theorem Ziv (p0s:(List Int)) (p1v:Int):Zak ((p0s,p1v)) = Zak.l2 p0s p1v (lenL p0s) 0:=by kernel_rfl
abbrev Zbf.ps:List PT:=[.val (.sl (.int .i64)),.val (.int .i64)]
abbrev Zbf.ros:List (ResultVar × RO):=[(.tmp 4,.val (.bool))]
def Zbf.env:Env:={ L:=tlist,G:=glist,C:=[(171,Zak.en)] }
def Zbf.an:Ann:={ lp:=[],jn:=[],sc:=[],kp:=[] }
def Zbf.code:Code:=Tryz.f127.body.getD .skip
def Zbf (x:(List Int) × Int):(Option Bool):=fnR Zbf.env Zbf.an Zbf.code Zbf.ps Zbf.ros x
noncomputable abbrev Zbf.en:Zda:=entry Zbf.ps Zbf.ros Zbf
theorem Zbf.envC:EnvC Tryz.prog Zbf.env:=(cns (.nilG lay_ok Zbh) Zak.sat)
theorem Zbf.sat:SatC Tryz.prog glist 127 Zbf.en:=satY (fn:=Tryz.f127) (c:=Zbf.code) (An:=Zbf.an) Zbf.envC (by kernel_rfl) (by kernel_rfl)
theorem Zhu (p0s:(List Int)) (p1v:Int):Zbf ((p0s,p1v)) = bindO (Zak (p0s,p1v)) (fun (y2:Int)=>(some (leI 0 y2))):=by kernel_rfl
abbrev Zcf.ps:List PT:=[.val zt81,.val (.sl (.int .i64)),.val (.str),.val (.int .i64)]
abbrev Zcf.ros:List (ResultVar × RO):=[(.tmp 8,.own zt32)]
def Zcf.env:Env:={ L:=tlist,G:=glist,C:=[(126,Zbe.en),(111,Za5.en),(127,Zbf.en)] }
def Zcf.an:Ann:={ lp:=[(5,[1,9,27,28,29])],jn:=[(9,[1,9,27,28,29]),(10,[9])],sc:=[],kp:=[] }
def Zcf.code:Code:=Tryz.f81.body.getD .skip
def Zcf (x:zt77 × (List Int) × ByteArray × Int):zt54:=fnR Zcf.env Zcf.an Zcf.code Zcf.ps Zcf.ros x
noncomputable abbrev Zcf.en:Zda:=entry Zcf.ps Zcf.ros Zcf
theorem Zcf.envC:EnvC Tryz.prog Zcf.env:=(cns (cns (cns (.nilG lay_ok Zbh) Zbf.sat) Za5.sat) Zbe.sat)
theorem Zcf.sat:SatC Tryz.prog glist 81 Zcf.en:=satY (fn:=Tryz.f81) (c:=Zcf.code) (An:=Zcf.an) Zcf.envC (by kernel_rfl) (by kernel_rfl)
noncomputable abbrev Zcf.J:=FJ Zcf.env Zcf.an Zcf.code Zcf.ps Zcf.ros
noncomputable abbrev Zcf.L:=FL Zcf.env Zcf.an Zcf.code Zcf.ps Zcf.ros
def Zcf.l5 (h0:(List Int)) (h1:zt51) (h2 h3:Int) (h4:zt43):zt54:=Zcf.L [1,1,1,0,1,0] (St.mk ((1,(V.val zt23 h0)) :: ((9,(V.arr 0)) :: ((27,(V.val zt70 h1)) :: ((28,(V.val zt9 h2)) :: ((29,(V.val zt9 h3)) :: []))))) ((0,(some (Bx.rows zt40 h4))) :: []) 1)
def Zcf.j9 (h0:(List Int)) (h1:zt51) (h2 h3:Int) (h4:zt43):zt54:=Zcf.J [1,1,1,0,1,0,0,1,1,1] (St.mk ((1,(V.val zt23 h0)) :: ((9,(V.arr 0)) :: ((27,(V.val zt70 h1)) :: ((28,(V.val zt9 h2)) :: ((29,(V.val zt9 h3)) :: []))))) ((0,(some (Bx.rows zt40 h4))) :: []) 1)
def Zcf.j10 (h0:zt43):zt54:=Zcf.J [1,1,1,1] (St.mk ((9,(V.arr 0)) :: []) ((0,(some (Bx.rows zt40 h0))) :: []) 1)
theorem Zcf.l5_eq (h0:(List Int)) (h1:zt51) (h2 h3:Int) (h4:zt43):Zcf.l5 h0 h1 h2 h3 h4 = iteB (ltI h3 h2) (bindO (atL h1 h3) (fun (y5:zt44)=>bindO (Zbf (h0,y5.1)) (fun (y6:Bool)=>iteB y6 (iteB (Zek h4 ((y5.2.1,y5.2.2) :: [])) (Zcf.j9 h0 h1 h2 h3 (appL h4 ((y5.2.1,y5.2.2) :: []))) (none)) (Zcf.j9 h0 h1 h2 h3 h4)))) (Zcf.j10 h4):=(Zcg Zcf.envC.ok.nat _ _ _).trans (by kernel_rfl)
theorem Zcf.j9_eq (h0:(List Int)) (h1:zt51) (h2 h3:Int) (h4:zt43):Zcf.j9 h0 h1 h2 h3 h4 = Zcf.l5 h0 h1 h2 (addI .i64 h3 1) h4:=Zdn (by kernel_rfl)
theorem Zcf.j10_eq (h0:zt43):Zcf.j10 h0 = (some h0):=Zdn (by kernel_rfl)
theorem impl_docs_eq (p0x:zt77) (p1ids:(List Int)) (p2field:ByteArray) (p3kind:Int):Zcf ((p0x,(p1ids,(p2field,p3kind)))) = bindO (Zbe (p0x.1,(p0x.2.1,(p0x.2.2.1,p0x.2.2.2)))) (fun (y4:Bool)=>iteB (notB y4) ((some [])) (bindO (Za5 (p0x.1,p2field)) (fun (y5:zt12)=>iteB (notB (eqI y5.2.1 p3kind)) ((some [])) (Zcf.l5 p1ids p0x.2.1 (lenL p0x.2.1) 0 [])))):=by kernel_rfl
abbrev Zbl.ps:List PT:=[.val zt32,.val (.str)]
abbrev Zbl.ros:List (ResultVar × RO):=[(.tmp 4,.val (.str)),(.tmp 5,.val (.bool))]
def Zbl.env:Env:={ L:=tlist,G:=glist,C:=[] }
def Zbl.an:Ann:={ lp:=[(2,[1,9,10,11])],jn:=[(7,[])],sc:=[],kp:=[] }
def Zbl.code:Code:=Tryz.f160.body.getD .skip
def Zbl (x:zt39 × ByteArray):zt17:=fnR Zbl.env Zbl.an Zbl.code Zbl.ps Zbl.ros x
noncomputable abbrev Zbl.en:Zda:=entry Zbl.ps Zbl.ros Zbl
theorem Zbl.envC:EnvC Tryz.prog Zbl.env:=(.nilG lay_ok Zbh)
theorem Zbl.sat:SatC Tryz.prog glist 160 Zbl.en:=satY (fn:=Tryz.f160) (c:=Zbl.code) (An:=Zbl.an) Zbl.envC (by kernel_rfl) (by kernel_rfl)
noncomputable abbrev Zbl.J:=FJ Zbl.env Zbl.an Zbl.code Zbl.ps Zbl.ros
noncomputable abbrev Zbl.L:=FL Zbl.env Zbl.an Zbl.code Zbl.ps Zbl.ros
def Zbl.l2 (h0:ByteArray) (h1:zt22) (h2 h3:Int):zt17:=Zbl.L [1,0,1,0] (St.mk ((1,(vs h0)) :: ((9,(V.val zt20 h1)) :: ((10,(V.val zt9 h2)) :: ((11,(V.val zt9 h3)) :: [])))) [] 0)
def Zbl.j7:zt17:=Zbl.J [1,1] (St.mk [] [] 0)
theorem Zbl.l2_eq (h0:ByteArray) (h1:zt22) (h2 h3:Int):Zbl.l2 h0 h1 h2 h3 = iteB (ltI h3 h2) (bindO (atL h1 h3) (fun (y4:zt10)=>iteB (eqS y4.1 h0) ((some (y4.2,Bool.true))) (Zbl.l2 h0 h1 h2 (addI .i64 h3 1)))) (Zbl.j7):=(Zcg Zbl.envC.ok.nat _ _ _).trans (by kernel_rfl)
theorem Zbl.j7_eq:Zbl.j7  = (some ((bs []),Bool.false)):=Zdn (by kernel_rfl)
theorem impl_DocText_eq (p0d:zt39) (p1name:ByteArray):Zbl ((p0d,p1name)) = Zbl.l2 p1name p0d.2 (lenL p0d.2) 0:=by kernel_rfl
abbrev Zd1.ps:List PT:=[.val zt42,.val zt32,.val (.str),.val (.int .i64)]
abbrev Zd1.ros:List (ResultVar × RO):=[(.tmp 8,.val (.str)),(.tmp 9,.val (.bool))]
def Zd1.env:Env:={ L:=tlist,G:=glist,C:=[(111,Za5.en),(160,Zbl.en)] }
def Zd1.an:Ann:={ lp:=[],jn:=[],sc:=[],kp:=[] }
def Zd1.code:Code:=Tryz.f114.body.getD .skip
def Zd1 (x:zt24 × zt39 × ByteArray × Int):zt17:=fnR Zd1.env Zd1.an Zd1.code Zd1.ps Zd1.ros x
noncomputable abbrev Zd1.en:Zda:=entry Zd1.ps Zd1.ros Zd1
theorem Zd1.envC:EnvC Tryz.prog Zd1.env:=(cns (cns (.nilG lay_ok Zbh) Zbl.sat) Za5.sat)
theorem Zd1.sat:SatC Tryz.prog glist 114 Zd1.en:=satY (fn:=Tryz.f114) (c:=Zd1.code) (An:=Zd1.an) Zd1.envC (by kernel_rfl) (by kernel_rfl)
theorem impl_cell_eq (p0fields:zt24) (p1d:zt39) (p2name:ByteArray) (p3kind:Int):Zd1 ((p0fields,(p1d,(p2name,p3kind)))) = bindO (Za5 (p0fields,p2name)) (fun (y4:zt12)=>iteB (notB (eqI y4.2.1 p3kind)) ((some ((bs []),Bool.false))) (bindO (Zbl ((p1d.1,p1d.2),p2name)) (fun (y5:zt3)=>(some (y5.1,y5.2))))):=by kernel_rfl
abbrev Zd7.ps:List PT:=[.val zt42,.val zt32,.val (.str)]
abbrev Zd7.ros:List (ResultVar × RO):=[(.tmp 6,.val (.int .i64)),(.tmp 7,.val (.bool))]
def Zd7.env:Env:={ L:=tlist,G:=glist,C:=[(114,Zd1.en),(112,Zde.en)] }
def Zd7.an:Ann:={ lp:=[],jn:=[],sc:=[],kp:=[] }
def Zd7.code:Code:=Tryz.f64.body.getD .skip
def Zd7 (x:zt24 × zt39 × ByteArray):zt7:=fnR Zd7.env Zd7.an Zd7.code Zd7.ps Zd7.ros x
noncomputable abbrev Zd7.en:Zda:=entry Zd7.ps Zd7.ros Zd7
theorem Zd7.envC:EnvC Tryz.prog Zd7.env:=(cns (cns (.nilG lay_ok Zbh) Zde.sat) Zd1.sat)
theorem Zd7.sat:SatC Tryz.prog glist 64 Zd7.en:=satY (fn:=Tryz.f64) (c:=Zd7.code) (An:=Zd7.an) Zd7.envC (by kernel_rfl) (by kernel_rfl)
theorem impl_num_eq (p0fields:zt24) (p1d:zt39) (p2name:ByteArray):Zd7 ((p0fields,(p1d,p2name))) = bindO (Zd1 (p0fields,((p1d.1,p1d.2),(p2name,2)))) (fun (y3:zt3)=>bindO (Zde y3.1) (fun (y4:(Int × Bool))=>(some (y4.1,y3.2)))):=by kernel_rfl
abbrev Zb7.ps:List PT:=[.val zt81,.val (.sl (.int .i64)),.val (.str)]
abbrev Zb7.ros:List (ResultVar × RO):=[(.tmp 6,.own (.int .i64))]
def Zb7.env:Env:={ L:=tlist,G:=glist,C:=[(81,Zcf.en),(64,Zd7.en)] }
def Zb7.an:Ann:={ lp:=[(3,[2,3,7,16,17,18])],jn:=[(8,[2,3,7,16,17,18]),(9,[7])],sc:=[],kp:=[] }
def Zb7.code:Code:=Tryz.f47.body.getD .skip
def Zb7 (x:zt77 × (List Int) × ByteArray):(Option (List Int)):=fnR Zb7.env Zb7.an Zb7.code Zb7.ps Zb7.ros x
noncomputable abbrev Zb7.en:Zda:=entry Zb7.ps Zb7.ros Zb7
theorem Zb7.envC:EnvC Tryz.prog Zb7.env:=(cns (cns (.nilG lay_ok Zbh) Zd7.sat) Zcf.sat)
theorem Zb7.sat:SatC Tryz.prog glist 47 Zb7.en:=satY (fn:=Tryz.f47) (c:=Zb7.code) (An:=Zb7.an) Zb7.envC (by kernel_rfl) (by kernel_rfl)
noncomputable abbrev Zb7.J:=FJ Zb7.env Zb7.an Zb7.code Zb7.ps Zb7.ros
noncomputable abbrev Zb7.L:=FL Zb7.env Zb7.an Zb7.code Zb7.ps Zb7.ros
def Zb7.l3 (h0:ByteArray) (h1 h2:Int) (h3:zt43) (h4:(List Int)) (h5:zt24) (h6:zt51) (h7:zt52) (h8:Int):(Option (List Int)):=Zb7.L [1,1,0,1,0] (St.mk ((2,(vs h0)) :: ((3,(V.ptr 0 0)) :: ((7,(V.arr 1)) :: ((16,(V.arr 2)) :: ((17,(V.val zt9 h1)) :: ((18,(V.val zt9 h2)) :: [])))))) ((2,(some (Bx.rows zt40 h3))) :: ((1,(some (Bx.rows zt9 h4))) :: ((0,(some (Bx.cs ((V.val zt69 h5) :: ((V.val zt70 h6) :: ((V.val zt74 h7) :: ((V.val zt9 h8) :: []))))))) :: []))) 3)
def Zb7.j8 (h0:ByteArray) (h1 h2:Int) (h3:zt43) (h4:(List Int)) (h5:zt24) (h6:zt51) (h7:zt52) (h8:Int):(Option (List Int)):=Zb7.J [1,1,0,1,0,0,1,1,1] (St.mk ((2,(vs h0)) :: ((3,(V.ptr 0 0)) :: ((7,(V.arr 1)) :: ((16,(V.arr 2)) :: ((17,(V.val zt9 h1)) :: ((18,(V.val zt9 h2)) :: [])))))) ((2,(some (Bx.rows zt40 h3))) :: ((1,(some (Bx.rows zt9 h4))) :: ((0,(some (Bx.cs ((V.val zt69 h5) :: ((V.val zt70 h6) :: ((V.val zt74 h7) :: ((V.val zt9 h8) :: []))))))) :: []))) 3)
def Zb7.j9 (h0:(List Int)):(Option (List Int)):=Zb7.J [1,1,1] (St.mk ((7,(V.arr 0)) :: []) ((0,(some (Bx.rows zt9 h0))) :: []) 1)
theorem Zb7.l3_eq (h0:ByteArray) (h1 h2:Int) (h3:zt43) (h4:(List Int)) (h5:zt24) (h6:zt51) (h7:zt52) (h8:Int):Zb7.l3 h0 h1 h2 h3 h4 h5 h6 h7 h8 = iteB (ltI h2 h1) (iteB (leI 0 h2) (iteB (ltI h2 (lenL h3)) (bindO (atL h3 h2) (fun (y9:zt39)=>bindO (Zd7 (h5,((y9.1,y9.2),h0))) (fun (y10:(Int × Bool))=>iteB y10.2 (iteB (Zek h4 (y10.1 :: [])) (Zb7.j8 h0 h1 h2 h3 (appL h4 (y10.1 :: [])) h5 h6 h7 h8) (none)) (Zb7.j8 h0 h1 h2 h3 h4 h5 h6 h7 h8)))) (none)) (none)) (Zb7.j9 h4):=(Zcg Zb7.envC.ok.nat _ _ _).trans (by kernel_rfl)
theorem Zb7.j8_eq (h0:ByteArray) (h1 h2:Int) (h3:zt43) (h4:(List Int)) (h5:zt24) (h6:zt51) (h7:zt52) (h8:Int):Zb7.j8 h0 h1 h2 h3 h4 h5 h6 h7 h8 = Zb7.l3 h0 h1 (addI .i64 h2 1) h3 h4 h5 h6 h7 h8:=Zdn (by kernel_rfl)
theorem Zb7.j9_eq (h0:(List Int)):Zb7.j9 h0 = (some h0):=Zdn (by kernel_rfl)
theorem impl_nums_eq (p0x:zt77) (p1ids:(List Int)) (p2field:ByteArray):Zb7 ((p0x,(p1ids,p2field))) = bindO (Zcf ((p0x.1,(p0x.2.1,(p0x.2.2.1,p0x.2.2.2))),(p1ids,(p2field,2)))) (fun (y3:zt43)=>Zb7.l3 p2field (lenL y3) 0 y3 [] p0x.1 p0x.2.1 p0x.2.2.1 p0x.2.2.2):=by kernel_rfl
abbrev Zam.ps:List PT:=[.val (.sl (.int .i64))]
abbrev Zam.ros:List (ResultVar × RO):=[(.tmp 2,.val (.int .i64))]
def Zam.env:Env:={ L:=tlist,G:=glist,C:=[] }
def Zam.an:Ann:={ lp:=[(5,[0,3,4])],jn:=[(3,[0]),(8,[3])],sc:=[],kp:=[] }
def Zam.code:Code:=Tryz.f48.body.getD .skip
def Zam (x:(List Int)):(Option Int):=fnR Zam.env Zam.an Zam.code Zam.ps Zam.ros x
noncomputable abbrev Zam.en:Zda:=entry Zam.ps Zam.ros Zam
theorem Zam.envC:EnvC Tryz.prog Zam.env:=(.nilG lay_ok Zbh)
theorem Zam.sat:SatC Tryz.prog glist 48 Zam.en:=satY (fn:=Tryz.f48) (c:=Zam.code) (An:=Zam.an) Zam.envC (by kernel_rfl) (by kernel_rfl)
noncomputable abbrev Zam.J:=FJ Zam.env Zam.an Zam.code Zam.ps Zam.ros
noncomputable abbrev Zam.L:=FL Zam.env Zam.an Zam.code Zam.ps Zam.ros
def Zam.j3 (h0:(List Int)):(Option Int):=Zam.J [1,1] (St.mk ((0,(V.val zt23 h0)) :: []) [] 0)
def Zam.l5 (h0:(List Int)) (h1 h2:Int):(Option Int):=Zam.L [1,1,1,0,1,0] (St.mk ((0,(V.val zt23 h0)) :: ((3,(V.val zt9 h1)) :: ((4,(V.val zt9 h2)) :: []))) [] 0)
def Zam.j8 (h0:Int):(Option Int):=Zam.J [1,1,1,1] (St.mk ((3,(V.val zt9 h0)) :: []) [] 0)
theorem Zam.j3_eq (h0:(List Int)):Zam.j3 h0 = bindO (atL h0 0) (fun (y1:Int)=>Zam.l5 h0 y1 1):=Zdn (by kernel_rfl)
theorem Zam.l5_eq (h0:(List Int)) (h1 h2:Int):Zam.l5 h0 h1 h2 = iteB (ltI h2 (lenL h0)) (bindO (atL h0 h2) (fun (y3:Int)=>Zam.l5 h0 (minI h1 y3) (addI .i64 h2 1))) (Zam.j8 h1):=(Zcg Zam.envC.ok.nat _ _ _).trans (by kernel_rfl)
theorem Zam.j8_eq (h0:Int):Zam.j8 h0 = (some h0):=Zdn (by kernel_rfl)
theorem slices_Min_int_int_eq (p0x:(List Int)):Zam (p0x) = iteB (ltI (lenL p0x) 1) (none) (Zam.j3 p0x):=by kernel_rfl
abbrev Zal.ps:List PT:=[.val (.sl (.int .i64))]
abbrev Zal.ros:List (ResultVar × RO):=[(.tmp 2,.val (.int .i64))]
def Zal.env:Env:={ L:=tlist,G:=glist,C:=[] }
def Zal.an:Ann:={ lp:=[(5,[0,3,4])],jn:=[(3,[0]),(8,[3])],sc:=[],kp:=[] }
def Zal.code:Code:=Tryz.f49.body.getD .skip
def Zal (x:(List Int)):(Option Int):=fnR Zal.env Zal.an Zal.code Zal.ps Zal.ros x
noncomputable abbrev Zal.en:Zda:=entry Zal.ps Zal.ros Zal
theorem Zal.envC:EnvC Tryz.prog Zal.env:=(.nilG lay_ok Zbh)
theorem Zal.sat:SatC Tryz.prog glist 49 Zal.en:=satY (fn:=Tryz.f49) (c:=Zal.code) (An:=Zal.an) Zal.envC (by kernel_rfl) (by kernel_rfl)
noncomputable abbrev Zal.J:=FJ Zal.env Zal.an Zal.code Zal.ps Zal.ros
noncomputable abbrev Zal.L:=FL Zal.env Zal.an Zal.code Zal.ps Zal.ros
def Zal.j3 (h0:(List Int)):(Option Int):=Zal.J [1,1] (St.mk ((0,(V.val zt23 h0)) :: []) [] 0)
def Zal.l5 (h0:(List Int)) (h1 h2:Int):(Option Int):=Zal.L [1,1,1,0,1,0] (St.mk ((0,(V.val zt23 h0)) :: ((3,(V.val zt9 h1)) :: ((4,(V.val zt9 h2)) :: []))) [] 0)
def Zal.j8 (h0:Int):(Option Int):=Zal.J [1,1,1,1] (St.mk ((3,(V.val zt9 h0)) :: []) [] 0)
theorem Zal.j3_eq (h0:(List Int)):Zal.j3 h0 = bindO (atL h0 0) (fun (y1:Int)=>Zal.l5 h0 y1 1):=Zdn (by kernel_rfl)
theorem Zal.l5_eq (h0:(List Int)) (h1 h2:Int):Zal.l5 h0 h1 h2 = iteB (ltI h2 (lenL h0)) (bindO (atL h0 h2) (fun (y3:Int)=>Zal.l5 h0 (maxI h1 y3) (addI .i64 h2 1))) (Zal.j8 h1):=(Zcg Zal.envC.ok.nat _ _ _).trans (by kernel_rfl)
theorem Zal.j8_eq (h0:Int):Zal.j8 h0 = (some h0):=Zdn (by kernel_rfl)
theorem slices_Max_int_int_eq (p0x:(List Int)):Zal (p0x) = iteB (ltI (lenL p0x) 1) (none) (Zal.j3 p0x):=by kernel_rfl
abbrev Zbu.ps:List PT:=[.val zt81,.val (.sl (.int .i64)),.val (.str)]
abbrev Zbu.ros:List (ResultVar × RO):=[(.cell 6 32,.val zt58)]
def Zbu.env:Env:={ L:=tlist,G:=glist,C:=[(47,Zb7.en),(48,Zam.en),(49,Zal.en)] }
def Zbu.an:Ann:={ lp:=[(6,[6,8,26,27,28])],jn:=[(10,[6,8])],sc:=[],kp:=[] }
def Zbu.code:Code:=Tryz.f13.body.getD .skip
def Zbu (x:zt77 × (List Int) × ByteArray):zt31:=fnR Zbu.env Zbu.an Zbu.code Zbu.ps Zbu.ros x
noncomputable abbrev Zbu.en:Zda:=entry Zbu.ps Zbu.ros Zbu
theorem Zbu.envC:EnvC Tryz.prog Zbu.env:=(cns (cns (cns (.nilG lay_ok Zbh) Zal.sat) Zam.sat) Zb7.sat)
theorem Zbu.sat:SatC Tryz.prog glist 13 Zbu.en:=satY (fn:=Tryz.f13) (c:=Zbu.code) (An:=Zbu.an) Zbu.envC (by kernel_rfl) (by kernel_rfl)
noncomputable abbrev Zbu.J:=FJ Zbu.env Zbu.an Zbu.code Zbu.ps Zbu.ros
noncomputable abbrev Zbu.L:=FL Zbu.env Zbu.an Zbu.code Zbu.ps Zbu.ros
def Zbu.l6 (h0 h1:Int) (h2:(List Int)) (h3 h4 h5 h6 h7 h8 h9 h10:Int):zt31:=Zbu.L [1,1,1,1,0,1,0] (St.mk ((6,(V.ptr 0 0)) :: ((8,(V.ptr 1 0)) :: ((26,(V.arr 2)) :: ((27,(V.val zt9 h0)) :: ((28,(V.val zt9 h1)) :: []))))) ((2,(some (Bx.rows zt9 h2))) :: ((1,(some (Bx.cs ((V.val zt9 h3) :: ((V.val zt9 h4) :: ((V.val zt9 h5) :: ((V.val zt9 h6) :: []))))))) :: ((0,(some (Bx.cs ((V.val zt9 h7) :: ((V.val zt9 h8) :: ((V.val zt9 h9) :: ((V.val zt9 h10) :: []))))))) :: []))) 3)
def Zbu.j10 (h0 h1 h2 h3 h4 h5 h6 h7:Int):zt31:=Zbu.J [1,1,1,1,1] (St.mk ((6,(V.ptr 0 0)) :: ((8,(V.ptr 1 0)) :: [])) ((1,(some (Bx.cs ((V.val zt9 h0) :: ((V.val zt9 h1) :: ((V.val zt9 h2) :: ((V.val zt9 h3) :: []))))))) :: ((0,(some (Bx.cs ((V.val zt9 h4) :: ((V.val zt9 h5) :: ((V.val zt9 h6) :: ((V.val zt9 h7) :: []))))))) :: [])) 2)
theorem Zbu.l6_eq (h0 h1:Int) (h2:(List Int)) (h3 h4 h5 h6 h7 h8 h9 h10:Int):Zbu.l6 h0 h1 h2 h3 h4 h5 h6 h7 h8 h9 h10 = iteB (ltI h1 h0) (iteB (leI 0 h1) (iteB (ltI h1 (lenL h2)) (bindO (atL h2 h1) (fun (y11:Int)=>Zbu.l6 h0 (addI .i64 h1 1) h2 h3 (addI .i64 h4 y11) h5 h6 h7 h8 h9 h10)) (none)) (none)) (Zbu.j10 h3 h4 h5 h6 h7 h8 h9 h10):=(Zcg Zbu.envC.ok.nat _ _ _).trans (by kernel_rfl)
theorem Zbu.j10_eq (h0 h1 h2 h3 h4 h5 h6 h7:Int):Zbu.j10 h0 h1 h2 h3 h4 h5 h6 h7 = (some (h0,(h1,(h2,h3)))):=Zdn (by kernel_rfl)
theorem impl_StatOf_eq (p0x:zt77) (p1ids:(List Int)) (p2field:ByteArray):Zbu ((p0x,(p1ids,p2field))) = bindO (Zb7 ((p0x.1,(p0x.2.1,(p0x.2.2.1,p0x.2.2.2))),(p1ids,p2field))) (fun (y3:(List Int))=>iteB (eqI (lenL y3) 0) ((some (0,(0,(0,0))))) (bindO (Zam y3) (fun (y4:Int)=>bindO (Zal y3) (fun (y5:Int)=>Zbu.l6 (lenL y3) 0 y3 (lenL y3) 0 y4 y5 0 0 0 0)))):=by kernel_rfl
abbrev Zaz.ps:List PT:=[.val (.str)]
abbrev Zaz.ros:List (ResultVar × RO):=[(.tmp 2,.val (.int .i64))]
def Zaz.env:Env:={ L:=tlist,G:=glist,C:=[] }
def Zaz.an:Ann:={ lp:=[(3,[0,3,4])],jn:=[(8,[0,3])],sc:=[],kp:=[] }
def Zaz.code:Code:=Tryz.f141.body.getD .skip
def Zaz (x:ByteArray):(Option Int):=fnR Zaz.env Zaz.an Zaz.code Zaz.ps Zaz.ros x
noncomputable abbrev Zaz.en:Zda:=entry Zaz.ps Zaz.ros Zaz
theorem Zaz.envC:EnvC Tryz.prog Zaz.env:=(.nilG lay_ok Zbh)
theorem Zaz.sat:SatC Tryz.prog glist 141 Zaz.en:=satY (fn:=Tryz.f141) (c:=Zaz.code) (An:=Zaz.an) Zaz.envC (by kernel_rfl) (by kernel_rfl)
noncomputable abbrev Zaz.J:=FJ Zaz.env Zaz.an Zaz.code Zaz.ps Zaz.ros
noncomputable abbrev Zaz.L:=FL Zaz.env Zaz.an Zaz.code Zaz.ps Zaz.ros
def Zaz.l3 (h0:ByteArray) (h1 h2:Int):(Option Int):=Zaz.L [1,1,0,1,0] (St.mk ((0,(vs h0)) :: ((3,(V.val zt9 h1)) :: ((4,(V.val zt9 h2)) :: []))) [] 0)
def Zaz.j8 (h0:ByteArray) (h1:Int):(Option Int):=Zaz.J [1,1,1] (St.mk ((0,(vs h0)) :: ((3,(V.val zt9 h1)) :: [])) [] 0)
theorem Zaz.l3_eq (h0:ByteArray) (h1 h2:Int):Zaz.l3 h0 h1 h2 = iteB (ltI h2 (lenS h0)) (bindO (atS h0 h2) (fun (y3:Int)=>iteB (ltI y3 48) ((some (-1))) (bindO (atS h0 h2) (fun (y4:Int)=>iteB (ltI 57 y4) ((some (-1))) (iteB (leI 9 h2) ((some (-1))) (bindO (atS h0 h2) (fun (y5:Int)=>Zaz.l3 h0 (addI .i64 (mulI .i64 h1 10) (Zhv .i64 (subI .u8 y5 48))) (addI .i64 h2 1)))))))) (Zaz.j8 h0 h1):=(Zcg Zaz.envC.ok.nat _ _ _).trans (by kernel_rfl)
theorem Zaz.j8_eq (h0:ByteArray) (h1:Int):Zaz.j8 h0 h1 = iteB (eqI (lenS h0) 0) ((some (-1))) (iteB (ltI 1 (lenS h0)) (bindO (atS h0 0) (fun (y2:Int)=>iteB (eqI y2 48) ((some (-1))) ((some h1)))) ((some h1))):=Zdn (by kernel_rfl)
theorem spec_l1Figures_eq (p0s:ByteArray):Zaz (p0s) = Zaz.l3 p0s 0 0:=by kernel_rfl
abbrev Zc0.ps:List PT:=[.val (.str)]
abbrev Zc0.ros:List (ResultVar × RO):=[(.tmp 2,.val (.int .i64)),(.tmp 3,.val (.bool))]
def Zc0.env:Env:={ L:=tlist,G:=glist,C:=[(141,Zaz.en)] }
def Zc0.an:Ann:={ lp:=[],jn:=[],sc:=[],kp:=[] }
def Zc0.code:Code:=Tryz.f100.body.getD .skip
def Zc0 (x:ByteArray):zt7:=fnR Zc0.env Zc0.an Zc0.code Zc0.ps Zc0.ros x
noncomputable abbrev Zc0.en:Zda:=entry Zc0.ps Zc0.ros Zc0
theorem Zc0.envC:EnvC Tryz.prog Zc0.env:=(cns (.nilG lay_ok Zbh) Zaz.sat)
theorem Zc0.sat:SatC Tryz.prog glist 100 Zc0.en:=satY (fn:=Tryz.f100) (c:=Zc0.code) (An:=Zc0.an) Zc0.envC (by kernel_rfl) (by kernel_rfl)
theorem spec_l1Number_eq (p0s:ByteArray):Zc0 (p0s) = iteB (ltI 1 (lenS p0s)) (bindO (atS p0s 0) (fun (y1:Int)=>iteB (eqI y1 45) (iteB (Zfs 1 (lenS p0s) (lenS p0s)) (bindO (Zaz (cutS p0s 1 (lenS p0s))) (fun (y2:Int)=>(some ((negI .i64 y2),(ltI 0 y2))))) (none)) (bindO (Zaz p0s) (fun (y2:Int)=>(some (y2,(leI 0 y2))))))) (bindO (Zaz p0s) (fun (y1:Int)=>(some (y1,(leI 0 y1))))):=by kernel_rfl
abbrev Zbx.ps:List PT:=[.val (.str),.val (.int .u8),.val (.int .i64)]
abbrev Zbx.ros:List (ResultVar × RO):=[(.tmp 6,.own (.str))]
def Zbx.env:Env:={ L:=tlist,G:=glist,C:=[] }
def Zbx.an:Ann:={ lp:=[(4,[0,1,2,7,8,9])],jn:=[(5,[0,1,2,7,8,9]),(9,[0,7,8])],sc:=[],kp:=[] }
def Zbx.code:Code:=Tryz.f183.body.getD .skip
def Zbx (x:ByteArray × Int × Int):zt13:=fnR Zbx.env Zbx.an Zbx.code Zbx.ps Zbx.ros x
noncomputable abbrev Zbx.en:Zda:=entry Zbx.ps Zbx.ros Zbx
theorem Zbx.envC:EnvC Tryz.prog Zbx.env:=(.nilG lay_ok Zbh)
theorem Zbx.sat:SatC Tryz.prog glist 183 Zbx.en:=satY (fn:=Tryz.f183) (c:=Zbx.code) (An:=Zbx.an) Zbx.envC (by kernel_rfl) (by kernel_rfl)
noncomputable abbrev Zbx.J:=FJ Zbx.env Zbx.an Zbx.code Zbx.ps Zbx.ros
noncomputable abbrev Zbx.L:=FL Zbx.env Zbx.an Zbx.code Zbx.ps Zbx.ros
def Zbx.l4 (h0:ByteArray) (h1 h2 h3 h4:Int) (h5:(List ByteArray)):zt13:=Zbx.L [1,1,1,0,1,0] (St.mk ((0,(vs h0)) :: ((1,(V.val zt8 h1)) :: ((2,(V.val zt9 h2)) :: ((7,(V.arr 0)) :: ((8,(V.val zt9 h3)) :: ((9,(V.val zt9 h4)) :: [])))))) ((0,(some (Bx.rows Ty.str h5))) :: []) 1)
def Zbx.j5 (h0:ByteArray) (h1 h2 h3 h4:Int) (h5:(List ByteArray)):zt13:=Zbx.J [1,1,1,0,1,0,0,1,1] (St.mk ((0,(vs h0)) :: ((1,(V.val zt8 h1)) :: ((2,(V.val zt9 h2)) :: ((7,(V.arr 0)) :: ((8,(V.val zt9 h3)) :: ((9,(V.val zt9 h4)) :: [])))))) ((0,(some (Bx.rows Ty.str h5))) :: []) 1)
def Zbx.j9 (h0:ByteArray) (h1:Int) (h2:(List ByteArray)):zt13:=Zbx.J [1,1,1,1] (St.mk ((0,(vs h0)) :: ((7,(V.arr 0)) :: ((8,(V.val zt9 h1)) :: []))) ((0,(some (Bx.rows Ty.str h2))) :: []) 1)
theorem Zbx.l4_eq (h0:ByteArray) (h1 h2 h3 h4:Int) (h5:(List ByteArray)):Zbx.l4 h0 h1 h2 h3 h4 h5 = iteB (ltI h4 (lenS h0)) (iteB (ltI (lenL h5) h2) (bindO (atS h0 h4) (fun (y6:Int)=>iteB (eqI y6 h1) (iteB (Zfs h3 h4 (lenS h0)) (iteB (Zek h5 ((cutS h0 h3 h4) :: [])) (Zbx.j5 h0 h1 h2 (addI .i64 h4 1) h4 (appL h5 ((cutS h0 h3 h4) :: []))) (none)) (none)) (Zbx.j5 h0 h1 h2 h3 h4 h5))) (Zbx.j9 h0 h3 h5)) (Zbx.j9 h0 h3 h5):=(Zcg Zbx.envC.ok.nat _ _ _).trans (by kernel_rfl)
theorem Zbx.j5_eq (h0:ByteArray) (h1 h2 h3 h4:Int) (h5:(List ByteArray)):Zbx.j5 h0 h1 h2 h3 h4 h5 = Zbx.l4 h0 h1 h2 h3 (addI .i64 h4 1) h5:=Zdn (by kernel_rfl)
theorem Zbx.j9_eq (h0:ByteArray) (h1:Int) (h2:(List ByteArray)):Zbx.j9 h0 h1 h2 = iteB (Zfs h1 (lenS h0) (lenS h0)) (iteB (Zek h2 ((cutS h0 h1 (lenS h0)) :: [])) ((some (appL h2 ((cutS h0 h1 (lenS h0)) :: [])))) (none)) (none):=Zdn (by kernel_rfl)
theorem spec_l1Cut_eq (p0s:ByteArray) (p1b p2most:Int):Zbx ((p0s,(p1b,p2most))) = Zbx.l4 p0s p1b p2most 0 0 []:=by kernel_rfl
abbrev Zdf.ps:List PT:=[.val (.int .i64),.val (.int .i64),.val (.int .i64)]
abbrev Zdf.ros:List (ResultVar × RO):=[(.tmp 6,.val (.bool))]
def Zdf.env:Env:={ L:=tlist,G:=glist,C:=[] }
def Zdf.an:Ann:={ lp:=[],jn:=[],sc:=[],kp:=[] }
def Zdf.code:Code:=Tryz.f55.body.getD .skip
def Zdf (x:Int × Int × Int):(Option Bool):=fnR Zdf.env Zdf.an Zdf.code Zdf.ps Zdf.ros x
noncomputable abbrev Zdf.en:Zda:=entry Zdf.ps Zdf.ros Zdf
theorem Zdf.envC:EnvC Tryz.prog Zdf.env:=(.nilG lay_ok Zbh)
theorem Zdf.sat:SatC Tryz.prog glist 55 Zdf.en:=satY (fn:=Tryz.f55) (c:=Zdf.code) (An:=Zdf.an) Zdf.envC (by kernel_rfl) (by kernel_rfl)
theorem spec_l1In_eq (p0n p1low p2high:Int):Zdf ((p0n,(p1low,p2high))) = iteB (leI p1low p0n) ((some (leI p0n p2high))) ((some Bool.false)):=by kernel_rfl
abbrev Za9.ps:List PT:=[.val (.str)]
abbrev Za9.ros:List (ResultVar × RO):=[(.tmp 2,.val (.bool))]
def Za9.env:Env:={ L:=tlist,G:=glist,C:=[(55,Zdf.en)] }
def Za9.an:Ann:={ lp:=[(2,[0,3])],jn:=[(7,[0])],sc:=[],kp:=[] }
def Za9.code:Code:=Tryz.f103.body.getD .skip
def Za9 (x:ByteArray):(Option Bool):=fnR Za9.env Za9.an Za9.code Za9.ps Za9.ros x
noncomputable abbrev Za9.en:Zda:=entry Za9.ps Za9.ros Za9
theorem Za9.envC:EnvC Tryz.prog Za9.env:=(cns (.nilG lay_ok Zbh) Zdf.sat)
theorem Za9.sat:SatC Tryz.prog glist 103 Za9.en:=satY (fn:=Tryz.f103) (c:=Za9.code) (An:=Za9.an) Za9.envC (by kernel_rfl) (by kernel_rfl)
noncomputable abbrev Za9.J:=FJ Za9.env Za9.an Za9.code Za9.ps Za9.ros
noncomputable abbrev Za9.L:=FL Za9.env Za9.an Za9.code Za9.ps Za9.ros
def Za9.l2 (h0:ByteArray) (h1:Int):(Option Bool):=Za9.L [1,0,1,0] (St.mk ((0,(vs h0)) :: ((3,(V.val zt9 h1)) :: [])) [] 0)
def Za9.j7 (h0:ByteArray):(Option Bool):=Za9.J [1,1] (St.mk ((0,(vs h0)) :: []) [] 0)
theorem Za9.l2_eq (h0:ByteArray) (h1:Int):Za9.l2 h0 h1 = iteB (ltI h1 (lenS h0)) (bindO (atS h0 h1) (fun (y2:Int)=>iteB (leI 97 y2) (bindO (atS h0 h1) (fun (y3:Int)=>iteB (notB (leI y3 122)) (iteB (eqI h1 0) ((some Bool.false)) (bindO (atS h0 h1) (fun (y4:Int)=>iteB (ltI y4 48) ((some Bool.false)) (bindO (atS h0 h1) (fun (y5:Int)=>iteB (ltI 57 y5) ((some Bool.false)) (Za9.l2 h0 (addI .i64 h1 1))))))) (Za9.l2 h0 (addI .i64 h1 1)))) (iteB (notB Bool.false) (iteB (eqI h1 0) ((some Bool.false)) (bindO (atS h0 h1) (fun (y3:Int)=>iteB (ltI y3 48) ((some Bool.false)) (bindO (atS h0 h1) (fun (y4:Int)=>iteB (ltI 57 y4) ((some Bool.false)) (Za9.l2 h0 (addI .i64 h1 1))))))) (Za9.l2 h0 (addI .i64 h1 1))))) (Za9.j7 h0):=(Zcg Za9.envC.ok.nat _ _ _).trans (by kernel_rfl)
theorem Za9.j7_eq (h0:ByteArray):Za9.j7 h0 = bindO (Zdf ((lenS h0),(1,8))) (fun (y1:Bool)=>(some y1)):=Zdn (by kernel_rfl)
theorem spec_NameOk_eq (p0s:ByteArray):Za9 (p0s) = Za9.l2 p0s 0:=by kernel_rfl
abbrev Zbc.ps:List PT:=[.val (.sl (.str)),.val (.str)]
abbrev Zbc.ros:List (ResultVar × RO):=[(.tmp 4,.val (.sl .str))]
def Zbc.env:Env:={ L:=tlist,G:=glist,C:=[] }
def Zbc.an:Ann:={ lp:=[(2,[0,1,5])],jn:=[(4,[0,1,5])],sc:=[],kp:=[],fk:=[(6,(.one 1 true (.one 2 true (.one 3 true (.one 5 true (.one 8 true (.one 9 true (.one 10 true (.or (.one 0 false (.or (.one 4 false (.one 6 false (.one 7 false (.one 11 false (.one 12 false .done))))) (.one 6 false (.one 4 false (.one 7 false (.one 11 false (.one 12 false .done))))))) (.one 6 false (.one 0 false (.one 4 false (.one 7 false (.one 11 false (.one 12 false .done)))))))))))))),[0,1,5],[4],[0])] }
def Zbc.code:Code:=Tryz.f184.body.getD .skip
def Zbc (x:(List ByteArray) × ByteArray):zt13:=fnR Zbc.env Zbc.an Zbc.code Zbc.ps Zbc.ros x
noncomputable abbrev Zbc.en:Zda:=entry Zbc.ps Zbc.ros Zbc
theorem Zbc.envC:EnvC Tryz.prog Zbc.env:=(.nilG lay_ok Zbh)
theorem Zbc.sat:SatC Tryz.prog glist 184 Zbc.en:=satY (fn:=Tryz.f184) (c:=Zbc.code) (An:=Zbc.an) Zbc.envC (by kernel_rfl) (by kernel_rfl)
noncomputable abbrev Zbc.J:=FJ Zbc.env Zbc.an Zbc.code Zbc.ps Zbc.ros
noncomputable abbrev Zbc.JF:=FF Zbc.env Zbc.an Zbc.code Zbc.ps Zbc.ros
noncomputable abbrev Zbc.L:=FL Zbc.env Zbc.an Zbc.code Zbc.ps Zbc.ros
def Zbc.l2 (h0:(List ByteArray)) (h1:ByteArray) (h2:Int):zt13:=Zbc.L [1,1,0,0] (St.mk ((0,(V.val (Ty.sl Ty.str) h0)) :: ((1,(vs h1)) :: ((5,(V.val zt9 h2)) :: []))) [] 0)
def Zbc.j4 (h0:(List ByteArray)) (h1:ByteArray) (h2:Int):zt13:=Zbc.J [1,1,1] (St.mk ((0,(V.val (Ty.sl Ty.str) h0)) :: ((1,(vs h1)) :: ((5,(V.val zt9 h2)) :: []))) [] 0)
def Zbc.j100006 (h0:(List ByteArray)) (h1:ByteArray) (h2:Int):zt13:=Zbc.JF [1,1,1,1,0] (St.mk ((0,(V.val (Ty.sl Ty.str) h0)) :: ((1,(vs h1)) :: ((5,(V.val zt9 h2)) :: []))) [] 0)
theorem Zbc.l2_eq (h0:(List ByteArray)) (h1:ByteArray) (h2:Int):Zbc.l2 h0 h1 h2 = iteB (ltI h2 (lenL h0)) (bindO (atL h0 h2) (fun (y3:ByteArray)=>iteB (ltS y3 h1) (Zbc.l2 h0 h1 (addI .i64 h2 1)) (Zbc.j4 h0 h1 h2))) (Zbc.j4 h0 h1 h2):=(Zcg Zbc.envC.ok.nat _ _ _).trans (by kernel_rfl)
theorem Zbc.j4_eq (h0:(List ByteArray)) (h1:ByteArray) (h2:Int):Zbc.j4 h0 h1 h2 = iteB (ltI h2 (lenL h0)) (bindO (atL h0 h2) (fun (y3:ByteArray)=>iteB (eqS y3 h1) ((some h0)) (Zbc.j100006 h0 h1 h2))) (Zbc.j100006 h0 h1 h2):=Zdn (by kernel_rfl)
theorem Zbc.j100006_eq (h0:(List ByteArray)) (h1:ByteArray) (h2:Int):Zbc.j100006 h0 h1 h2 = iteB (Zfs 0 h2 (lenL h0)) (iteB (Zfs h2 (lenL h0) (lenL h0)) (iteB (Zek [] (cutL h0 0 h2)) (iteB (Zek (appL [] (cutL h0 0 h2)) (h1 :: [])) (iteB (Zek (appL (appL [] (cutL h0 0 h2)) (h1 :: [])) (cutL h0 h2 (lenL h0))) ((some (appL (appL (appL [] (cutL h0 0 h2)) (h1 :: [])) (cutL h0 h2 (lenL h0))))) (none)) (none)) (none)) (none)) (none):=(Zgy (E:=Zbc.env) (A:=Zbc.an) (c:=(Zis Zbc.code [1,1,1,1,0])) (s:=(St.mk ((0,(V.val (Ty.sl Ty.str) h0)) :: ((1,(V.val Ty.str h1)) :: ((5,(V.val zt9 h2)) :: []))) [] 0)) (κ:=(Zgf Zbc.env Zbc.an Zbc.code [1,1,1,1,0] (retK Zbc.env [.val (.sl (.str)),.val (.str)] [(.tmp 4,.val (.sl .str))]))) (List.replicate 2 (iteB (Zfs 0 h2 (lenL h0)) (iteB (Zfs h2 (lenL h0) (lenL h0)) (iteB (Zek [] (cutL h0 0 h2)) (iteB (Zek (appL [] (cutL h0 0 h2)) (h1 :: [])) (iteB (Zek (appL (appL [] (cutL h0 0 h2)) (h1 :: [])) (cutL h0 h2 (lenL h0))) ((some (St.mk ((4,(V.arr 0)) :: []) ((0,(some (Bx.rows Ty.str (appL (appL (appL [] (cutL h0 0 h2)) (h1 :: [])) (cutL h0 h2 (lenL h0)))))) :: []) 1))) (none)) (none)) (none)) (none)) (none))) (by kernel_rfl) (by kernel_rfl)).trans (by kernel_rfl)
theorem spec_l2Add_eq (p0list:(List ByteArray)) (p1s:ByteArray):Zbc ((p0list,p1s)) = Zbc.l2 p0list p1s 0:=by kernel_rfl
abbrev Za8.ps:List PT:=[.val (.str)]
abbrev Za8.ros:List (ResultVar × RO):=[(.tmp 2,.val (.sl .str)),(.tmp 3,.val .bool)]
def Za8.env:Env:={ L:=tlist,G:=glist,C:=[(183,Zbx.en),(103,Za9.en),(184,Zbc.en)] }
def Za8.an:Ann:={ lp:=[(4,[4,5,6])],jn:=[(9,[4,5])],sc:=[],kp:=[] }
def Za8.code:Code:=Tryz.f132.body.getD .skip
def Za8 (x:ByteArray):zt29:=fnR Za8.env Za8.an Za8.code Za8.ps Za8.ros x
noncomputable abbrev Za8.en:Zda:=entry Za8.ps Za8.ros Za8
theorem Za8.envC:EnvC Tryz.prog Za8.env:=(cns (cns (cns (.nilG lay_ok Zbh) Zbc.sat) Za9.sat) Zbx.sat)
theorem Za8.sat:SatC Tryz.prog glist 132 Za8.en:=satY (fn:=Tryz.f132) (c:=Za8.code) (An:=Za8.an) Za8.envC (by kernel_rfl) (by kernel_rfl)
noncomputable abbrev Za8.J:=FJ Za8.env Za8.an Za8.code Za8.ps Za8.ros
noncomputable abbrev Za8.L:=FL Za8.env Za8.an Za8.code Za8.ps Za8.ros
def Za8.l4 (h0:Int) (h1 h2:(List ByteArray)):zt29:=Za8.L [1,1,1,0,1,0] (St.mk ((4,(V.arr 0)) :: ((5,(V.arr 1)) :: ((6,(V.val zt9 h0)) :: []))) ((1,(some (Bx.rows Ty.str h1))) :: ((0,(some (Bx.rows Ty.str h2))) :: [])) 2)
def Za8.l4_1 (h0:(List ByteArray)) (h1:Int) (h2:(List ByteArray)):zt29:=Za8.L [1,1,1,0,1,0] (St.mk ((4,(V.val (Ty.sl Ty.str) h0)) :: ((5,(V.arr 0)) :: ((6,(V.val zt9 h1)) :: []))) ((0,(some (Bx.rows Ty.str h2))) :: []) 1)
def Za8.j9 (h0 h1:(List ByteArray)):zt29:=Za8.J [1,1,1,1] (St.mk ((4,(V.arr 0)) :: ((5,(V.arr 1)) :: [])) ((1,(some (Bx.rows Ty.str h0))) :: ((0,(some (Bx.rows Ty.str h1))) :: [])) 2)
def Za8.j9_1 (h0 h1:(List ByteArray)):zt29:=Za8.J [1,1,1,1] (St.mk ((4,(V.val (Ty.sl Ty.str) h0)) :: ((5,(V.arr 0)) :: [])) ((0,(some (Bx.rows Ty.str h1))) :: []) 1)
theorem Za8.l4_eq (h0:Int) (h1 h2:(List ByteArray)):Za8.l4 h0 h1 h2 = iteB (ltI h0 (lenL h1)) (iteB (leI 0 h0) (iteB (ltI h0 (lenL h1)) (bindO (atL h1 h0) (fun (y3:ByteArray)=>bindO (Za9 y3) (fun (y4:Bool)=>iteB (notB y4) ((some ([],Bool.false))) (iteB (leI 0 h0) (iteB (ltI h0 (lenL h1)) (bindO (atL h1 h0) (fun (y5:ByteArray)=>bindO (Zbc (h2,y5)) (fun (y6:(List ByteArray))=>Za8.l4_1 y6 (addI .i64 h0 1) h1))) (none)) (none))))) (none)) (none)) (Za8.j9 h1 h2):=(Zcg Za8.envC.ok.nat _ _ _).trans (by kernel_rfl)
theorem Za8.l4_1_eq (h0:(List ByteArray)) (h1:Int) (h2:(List ByteArray)):Za8.l4_1 h0 h1 h2 = iteB (ltI h1 (lenL h2)) (iteB (leI 0 h1) (iteB (ltI h1 (lenL h2)) (bindO (atL h2 h1) (fun (y3:ByteArray)=>bindO (Za9 y3) (fun (y4:Bool)=>iteB (notB y4) ((some ([],Bool.false))) (iteB (leI 0 h1) (iteB (ltI h1 (lenL h2)) (bindO (atL h2 h1) (fun (y5:ByteArray)=>bindO (Zbc (h0,y5)) (fun (y6:(List ByteArray))=>Za8.l4_1 y6 (addI .i64 h1 1) h2))) (none)) (none))))) (none)) (none)) (Za8.j9_1 h0 h2):=(Zcg Za8.envC.ok.nat _ _ _).trans (by kernel_rfl)
theorem Za8.j9_eq (h0 h1:(List ByteArray)):Za8.j9 h0 h1 = (some (h1,(leI (lenL h0) 4))):=Zdn (by kernel_rfl)
theorem Za8.j9_1_eq (h0 h1:(List ByteArray)):Za8.j9_1 h0 h1 = (some (h0,(leI (lenL h1) 4))):=Zdn (by kernel_rfl)
theorem spec_l2Tags_eq (p0s:ByteArray):Za8 (p0s) = bindO (Zbx (p0s,(44,(addI .i64 (lenS p0s) 1)))) (fun (y1:(List ByteArray))=>Za8.l4 0 y1 []):=by kernel_rfl
abbrev Zbt.ps:List PT:=[.val (.str)]
abbrev Zbt.ros:List (ResultVar × RO):=[(.tmp 2,.val (.bool))]
def Zbt.env:Env:={ L:=tlist,G:=glist,C:=[(55,Zdf.en)] }
def Zbt.an:Ann:={ lp:=[(2,[0,3])],jn:=[(6,[0])],sc:=[],kp:=[] }
def Zbt.code:Code:=Tryz.f142.body.getD .skip
def Zbt (x:ByteArray):(Option Bool):=fnR Zbt.env Zbt.an Zbt.code Zbt.ps Zbt.ros x
noncomputable abbrev Zbt.en:Zda:=entry Zbt.ps Zbt.ros Zbt
theorem Zbt.envC:EnvC Tryz.prog Zbt.env:=(cns (.nilG lay_ok Zbh) Zdf.sat)
theorem Zbt.sat:SatC Tryz.prog glist 142 Zbt.en:=satY (fn:=Tryz.f142) (c:=Zbt.code) (An:=Zbt.an) Zbt.envC (by kernel_rfl) (by kernel_rfl)
noncomputable abbrev Zbt.J:=FJ Zbt.env Zbt.an Zbt.code Zbt.ps Zbt.ros
noncomputable abbrev Zbt.L:=FL Zbt.env Zbt.an Zbt.code Zbt.ps Zbt.ros
def Zbt.l2 (h0:ByteArray) (h1:Int):(Option Bool):=Zbt.L [1,0,1,0] (St.mk ((0,(vs h0)) :: ((3,(V.val zt9 h1)) :: [])) [] 0)
def Zbt.j6 (h0:ByteArray):(Option Bool):=Zbt.J [1,1] (St.mk ((0,(vs h0)) :: []) [] 0)
theorem Zbt.l2_eq (h0:ByteArray) (h1:Int):Zbt.l2 h0 h1 = iteB (ltI h1 (lenS h0)) (bindO (atS h0 h1) (fun (y2:Int)=>bindO (Zdf ((Zhv .i64 y2),(32,126))) (fun (y3:Bool)=>iteB (notB y3) ((some Bool.false)) (Zbt.l2 h0 (addI .i64 h1 1))))) (Zbt.j6 h0):=(Zcg Zbt.envC.ok.nat _ _ _).trans (by kernel_rfl)
theorem Zbt.j6_eq (h0:ByteArray):Zbt.j6 h0 = (some (leI (lenS h0) 60)):=Zdn (by kernel_rfl)
theorem spec_l2Text_eq (p0s:ByteArray):Zbt (p0s) = Zbt.l2 p0s 0:=by kernel_rfl
abbrev Zdk.ps:List PT:=[.val zt37,.val (.str)]
abbrev Zdk.ros:List (ResultVar × RO):=[(.tmp 4,.val (.bool))]
def Zdk.env:Env:={ L:=tlist,G:=glist,C:=[(100,Zc0.en),(132,Za8.en),(142,Zbt.en)] }
def Zdk.an:Ann:={ lp:=[],jn:=[],sc:=[],kp:=[] }
def Zdk.code:Code:=Tryz.f101.body.getD .skip
def Zdk (x:zt12 × ByteArray):(Option Bool):=fnR Zdk.env Zdk.an Zdk.code Zdk.ps Zdk.ros x
noncomputable abbrev Zdk.en:Zda:=entry Zdk.ps Zdk.ros Zdk
theorem Zdk.envC:EnvC Tryz.prog Zdk.env:=(cns (cns (cns (.nilG lay_ok Zbh) Zbt.sat) Za8.sat) Zc0.sat)
theorem Zdk.sat:SatC Tryz.prog glist 101 Zdk.en:=satY (fn:=Tryz.f101) (c:=Zdk.code) (An:=Zdk.an) Zdk.envC (by kernel_rfl) (by kernel_rfl)
theorem spec_l2Cell_eq (p0f:zt12) (p1s:ByteArray):Zdk ((p0f,p1s)) = bindO (Zc0 p1s) (fun (y2:(Int × Bool))=>bindO (Za8 p1s) (fun (y3:zt15)=>bindO (Zbt p1s) (fun (y4:Bool)=>iteB y4 (iteB (eqI p0f.2.1 1) ((some Bool.true)) (iteB (eqI p0f.2.1 2) (iteB y2.2 ((some Bool.true)) (iteB (eqI p0f.2.1 3) ((some y3.2)) ((some Bool.false)))) (iteB (eqI p0f.2.1 3) ((some y3.2)) ((some Bool.false))))) ((some Bool.false))))):=by kernel_rfl
abbrev Zay.ps:List PT:=[.val zt42]
abbrev Zay.ros:List (ResultVar × RO):=[(.tmp 2,.val (.bool))]
def Zay.env:Env:={ L:=tlist,G:=glist,C:=[(55,Zdf.en),(103,Za9.en),(98,Zax.en)] }
def Zay.an:Ann:={ lp:=[(2,[0,3])],jn:=[(9,[0])],sc:=[],kp:=[] }
def Zay.code:Code:=Tryz.f56.body.getD .skip
def Zay (x:zt24):(Option Bool):=fnR Zay.env Zay.an Zay.code Zay.ps Zay.ros x
noncomputable abbrev Zay.en:Zda:=entry Zay.ps Zay.ros Zay
theorem Zay.envC:EnvC Tryz.prog Zay.env:=(cns (cns (cns (.nilG lay_ok Zbh) Zax.sat) Za9.sat) Zdf.sat)
theorem Zay.sat:SatC Tryz.prog glist 56 Zay.en:=satY (fn:=Tryz.f56) (c:=Zay.code) (An:=Zay.an) Zay.envC (by kernel_rfl) (by kernel_rfl)
noncomputable abbrev Zay.J:=FJ Zay.env Zay.an Zay.code Zay.ps Zay.ros
noncomputable abbrev Zay.L:=FL Zay.env Zay.an Zay.code Zay.ps Zay.ros
def Zay.l2 (h0:zt24) (h1:Int):(Option Bool):=Zay.L [1,0,1,0] (St.mk ((0,(V.val zt69 h0)) :: ((3,(V.val zt9 h1)) :: [])) [] 0)
def Zay.j9 (h0:zt24):(Option Bool):=Zay.J [1,1] (St.mk ((0,(V.val zt69 h0)) :: []) [] 0)
theorem Zay.l2_eq (h0:zt24) (h1:Int):Zay.l2 h0 h1 = iteB (ltI h1 (lenL h0)) (bindO (atL h0 h1) (fun (y2:zt12)=>iteB (eqI y2.2.1 1) (bindO (Zdf (y2.2.2,(1,9))) (fun (y3:Bool)=>bindO (Zdf (y2.2.1,(2,3))) (fun (y4:Bool)=>iteB y4 (bindO (Za9 y2.1) (fun (y5:Bool)=>iteB (notB y5) ((some Bool.false)) (bindO (Zax (h0,y2.1)) (fun (y6:Int)=>iteB (notB (eqI y6 h1)) ((some Bool.false)) (iteB (notB y3) (iteB (notB (eqI y2.2.2 0)) ((some Bool.false)) (Zay.l2 h0 (addI .i64 h1 1))) (Zay.l2 h0 (addI .i64 h1 1))))))) (bindO (Za9 y2.1) (fun (y5:Bool)=>iteB (notB y5) ((some Bool.false)) (bindO (Zax (h0,y2.1)) (fun (y6:Int)=>iteB (notB (eqI y6 h1)) ((some Bool.false)) (iteB (notB y3) (iteB (notB Bool.false) ((some Bool.false)) (Zay.l2 h0 (addI .i64 h1 1))) (Zay.l2 h0 (addI .i64 h1 1)))))))))) (bindO (Zdf (y2.2.1,(2,3))) (fun (y3:Bool)=>iteB y3 (bindO (Za9 y2.1) (fun (y4:Bool)=>iteB (notB y4) ((some Bool.false)) (bindO (Zax (h0,y2.1)) (fun (y5:Int)=>iteB (notB (eqI y5 h1)) ((some Bool.false)) (iteB (notB Bool.false) (iteB (notB (eqI y2.2.2 0)) ((some Bool.false)) (Zay.l2 h0 (addI .i64 h1 1))) (Zay.l2 h0 (addI .i64 h1 1))))))) (bindO (Za9 y2.1) (fun (y4:Bool)=>iteB (notB y4) ((some Bool.false)) (bindO (Zax (h0,y2.1)) (fun (y5:Int)=>iteB (notB (eqI y5 h1)) ((some Bool.false)) (iteB (notB Bool.false) (iteB (notB Bool.false) ((some Bool.false)) (Zay.l2 h0 (addI .i64 h1 1))) (Zay.l2 h0 (addI .i64 h1 1))))))))))) (Zay.j9 h0):=(Zcg Zay.envC.ok.nat _ _ _).trans (by kernel_rfl)
theorem Zay.j9_eq (h0:zt24):Zay.j9 h0 = bindO (Zdf ((lenL h0),(1,4))) (fun (y1:Bool)=>(some y1)):=Zdn (by kernel_rfl)
theorem spec_FieldsOk_eq (p0list:zt24):Zay (p0list) = Zay.l2 p0list 0:=by kernel_rfl
abbrev Zbs.ps:List PT:=[.val zt32]
abbrev Zbs.ros:List (ResultVar × RO):=[(.tmp 2,.val (.bool))]
def Zbs.env:Env:={ L:=tlist,G:=glist,C:=[(103,Za9.en),(142,Zbt.en)] }
def Zbs.an:Ann:={ lp:=[(2,[1,3])],jn:=[(6,[1])],sc:=[(4,[(0,true),(1,true),(2,false),(3,false),(4,false),(5,false),(6,false),(7,false),(8,false),(9,true),(10,true),(11,false),(12,false),(13,false),(14,false),(15,false),(16,false),(17,false),(18,false),(19,false),(20,false),(21,false),(22,true),(23,true),(24,true),(25,true),(26,true),(27,true),(28,true),(29,true),(30,true),(31,false),(32,false),(33,false),(34,false),(35,false),(36,false),(37,false)])],kp:=[] }
def Zbs.code:Code:=Tryz.f102.body.getD .skip
def Zbs (x:zt39):(Option Bool):=fnR Zbs.env Zbs.an Zbs.code Zbs.ps Zbs.ros x
noncomputable abbrev Zbs.en:Zda:=entry Zbs.ps Zbs.ros Zbs
theorem Zbs.envC:EnvC Tryz.prog Zbs.env:=(cns (cns (.nilG lay_ok Zbh) Zbt.sat) Za9.sat)
theorem Zbs.sat:SatC Tryz.prog glist 102 Zbs.en:=satY (fn:=Tryz.f102) (c:=Zbs.code) (An:=Zbs.an) Zbs.envC (by kernel_rfl) (by kernel_rfl)
noncomputable abbrev Zbs.J:=FJ Zbs.env Zbs.an Zbs.code Zbs.ps Zbs.ros
noncomputable abbrev Zbs.L:=FL Zbs.env Zbs.an Zbs.code Zbs.ps Zbs.ros
def Zbs.l2 (h0:Int) (h1:ByteArray) (h2:zt22):(Option Bool):=Zbs.L [1,0,1,0] (St.mk ((1,(V.ptr 0 0)) :: ((3,(V.val zt9 h0)) :: [])) ((0,(some (Bx.cs ((vs h1) :: ((V.val zt20 h2) :: []))))) :: []) 1)
def Zbs.j6 (h0:ByteArray) (h1:zt22):(Option Bool):=Zbs.J [1,1] (St.mk ((1,(V.ptr 0 0)) :: []) ((0,(some (Bx.cs ((vs h0) :: ((V.val zt20 h1) :: []))))) :: []) 1)
theorem Zbs.l2_eq (h0:Int) (h1:ByteArray) (h2:zt22):Zbs.l2 h0 h1 h2 = iteB (ltI h0 (lenL h2)) (bindO (atL h2 h0) (fun (y3:zt10)=>bindO (Za9 y3.1) (fun (y4:Bool)=>iteB (notB y4) ((some Bool.false)) (bindO (atL h2 h0) (fun (y5:zt10)=>bindO (Zbt y5.2) (fun (y6:Bool)=>iteB (notB y6) ((some Bool.false)) (iteB (ltI 0 h0) (bindO (atL h2 (subI .i64 h0 1)) (fun (y7:zt10)=>bindO (atL h2 h0) (fun (y8:zt10)=>iteB (notB (ltS y7.1 y8.1)) ((some Bool.false)) (Zbs.l2 (addI .i64 h0 1) h1 h2)))) (Zbs.l2 (addI .i64 h0 1) h1 h2)))))))) (Zbs.j6 h1 h2):=(Zcg Zbs.envC.ok.nat _ _ _).trans (by kernel_rfl)
theorem Zbs.j6_eq (h0:ByteArray) (h1:zt22):Zbs.j6 h0 h1 = bindO (Za9 h0) (fun (y2:Bool)=>iteB y2 ((some (leI (lenL h1) 4))) ((some Bool.false))):=Zdn (by kernel_rfl)
theorem spec_l2Form_eq (p0d:zt39):Zbs (p0d) = Zbs.l2 0 p0d.1 p0d.2:=by kernel_rfl
abbrev Zb3.ps:List PT:=[.val zt42,.val zt32]
abbrev Zb3.ros:List (ResultVar × RO):=[(.tmp 4,.val (.bool))]
def Zb3.env:Env:={ L:=tlist,G:=glist,C:=[(98,Zax.en),(101,Zdk.en),(56,Zay.en),(102,Zbs.en)] }
def Zb3.an:Ann:={ lp:=[(2,[0,3,5])],jn:=[(7,[0,3])],sc:=[(5,[(0,false),(1,false),(2,false),(3,true),(4,true),(5,true),(6,true),(7,true),(8,true),(9,false),(10,false),(11,false),(12,false),(13,false),(14,false),(15,false)])],kp:=[] }
def Zb3.code:Code:=Tryz.f53.body.getD .skip
def Zb3 (x:zt24 × zt39):(Option Bool):=fnR Zb3.env Zb3.an Zb3.code Zb3.ps Zb3.ros x
noncomputable abbrev Zb3.en:Zda:=entry Zb3.ps Zb3.ros Zb3
theorem Zb3.envC:EnvC Tryz.prog Zb3.env:=(cns (cns (cns (cns (.nilG lay_ok Zbh) Zbs.sat) Zay.sat) Zdk.sat) Zax.sat)
theorem Zb3.sat:SatC Tryz.prog glist 53 Zb3.en:=satY (fn:=Tryz.f53) (c:=Zb3.code) (An:=Zb3.an) Zb3.envC (by kernel_rfl) (by kernel_rfl)
noncomputable abbrev Zb3.J:=FJ Zb3.env Zb3.an Zb3.code Zb3.ps Zb3.ros
noncomputable abbrev Zb3.L:=FL Zb3.env Zb3.an Zb3.code Zb3.ps Zb3.ros
def Zb3.l2 (h0:zt24) (h1:Int) (h2:ByteArray) (h3:zt22):(Option Bool):=Zb3.L [1,0,1,0] (St.mk ((0,(V.val zt69 h0)) :: ((3,(V.ptr 0 0)) :: ((5,(V.val zt9 h1)) :: []))) ((0,(some (Bx.cs ((vs h2) :: ((V.val zt20 h3) :: []))))) :: []) 1)
def Zb3.j7 (h0:zt24) (h1:ByteArray) (h2:zt22):(Option Bool):=Zb3.J [1,1] (St.mk ((0,(V.val zt69 h0)) :: ((3,(V.ptr 0 0)) :: [])) ((0,(some (Bx.cs ((vs h1) :: ((V.val zt20 h2) :: []))))) :: []) 1)
theorem Zb3.l2_eq (h0:zt24) (h1:Int) (h2:ByteArray) (h3:zt22):Zb3.l2 h0 h1 h2 h3 = iteB (ltI h1 (lenL h3)) (bindO (atL h3 h1) (fun (y4:zt10)=>bindO (Zax (h0,y4.1)) (fun (y5:Int)=>iteB (ltI y5 0) ((some Bool.false)) (bindO (atL h0 y5) (fun (y6:zt12)=>bindO (atL h3 h1) (fun (y7:zt10)=>bindO (Zdk (y6,y7.2)) (fun (y8:Bool)=>iteB (notB y8) ((some Bool.false)) (Zb3.l2 h0 (addI .i64 h1 1) h2 h3)))))))) (Zb3.j7 h0 h2 h3):=(Zcg Zb3.envC.ok.nat _ _ _).trans (by kernel_rfl)
theorem Zb3.j7_eq (h0:zt24) (h1:ByteArray) (h2:zt22):Zb3.j7 h0 h1 h2 = bindO (Zay h0) (fun (y3:Bool)=>iteB y3 (bindO (Zbs (h1,h2)) (fun (y4:Bool)=>(some y4))) ((some Bool.false))):=Zdn (by kernel_rfl)
theorem spec_DocOk_eq (p0fields:zt24) (p1d:zt39):Zb3 ((p0fields,p1d)) = Zb3.l2 p0fields 0 p1d.1 p1d.2:=by kernel_rfl
abbrev Zcc.ps:List PT:=[.val zt55,.val (.str)]
abbrev Zcc.ros:List (ResultVar × RO):=[(.tmp 4,.val (.int .i64))]
def Zcc.env:Env:={ L:=tlist,G:=glist,C:=[] }
def Zcc.an:Ann:={ lp:=[(2,[0,1,5])],jn:=[(6,[])],sc:=[],kp:=[] }
def Zcc.code:Code:=Tryz.f54.body.getD .skip
def Zcc (x:zt51 × ByteArray):(Option Int):=fnR Zcc.env Zcc.an Zcc.code Zcc.ps Zcc.ros x
noncomputable abbrev Zcc.en:Zda:=entry Zcc.ps Zcc.ros Zcc
theorem Zcc.envC:EnvC Tryz.prog Zcc.env:=(.nilG lay_ok Zbh)
theorem Zcc.sat:SatC Tryz.prog glist 54 Zcc.en:=satY (fn:=Tryz.f54) (c:=Zcc.code) (An:=Zcc.an) Zcc.envC (by kernel_rfl) (by kernel_rfl)
noncomputable abbrev Zcc.J:=FJ Zcc.env Zcc.an Zcc.code Zcc.ps Zcc.ros
noncomputable abbrev Zcc.L:=FL Zcc.env Zcc.an Zcc.code Zcc.ps Zcc.ros
def Zcc.l2 (h0:zt51) (h1:ByteArray) (h2:Int):(Option Int):=Zcc.L [1,0,1,0] (St.mk ((0,(V.val zt70 h0)) :: ((1,(vs h1)) :: ((5,(V.val zt9 h2)) :: []))) [] 0)
def Zcc.j6:(Option Int):=Zcc.J [1,1] (St.mk [] [] 0)
theorem Zcc.l2_eq (h0:zt51) (h1:ByteArray) (h2:Int):Zcc.l2 h0 h1 h2 = iteB (ltI h2 (lenL h0)) (bindO (atL h0 h2) (fun (y3:zt44)=>iteB (eqS y3.2.1 h1) ((some h2)) (Zcc.l2 h0 h1 (addI .i64 h2 1)))) (Zcc.j6):=(Zcg Zcc.envC.ok.nat _ _ _).trans (by kernel_rfl)
theorem Zcc.j6_eq:Zcc.j6  = (some (-1)):=Zdn (by kernel_rfl)
theorem spec_l4Key_eq (p0rows:zt51) (p1key:ByteArray):Zcc ((p0rows,p1key)) = Zcc.l2 p0rows p1key 0:=by kernel_rfl
abbrev Zbv.ps:List PT:=[.val (.sl (.int .i64)),.val (.sl (.int .i64))]
abbrev Zbv.ros:List (ResultVar × RO):=[(.tmp 4,.val (.bool))]
def Zbv.env:Env:={ L:=tlist,G:=glist,C:=[] }
def Zbv.an:Ann:={ lp:=[(4,[0,1,5])],jn:=[(8,[])],sc:=[(6,[(0,true),(1,true),(2,true),(3,true),(4,true),(5,false),(6,false),(7,false),(8,false)])],kp:=[] }
def Zbv.code:Code:=Tryz.f104.body.getD .skip
def Zbv (x:(List Int) × (List Int)):(Option Bool):=fnR Zbv.env Zbv.an Zbv.code Zbv.ps Zbv.ros x
noncomputable abbrev Zbv.en:Zda:=entry Zbv.ps Zbv.ros Zbv
theorem Zbv.envC:EnvC Tryz.prog Zbv.env:=(.nilG lay_ok Zbh)
theorem Zbv.sat:SatC Tryz.prog glist 104 Zbv.en:=satY (fn:=Tryz.f104) (c:=Zbv.code) (An:=Zbv.an) Zbv.envC (by kernel_rfl) (by kernel_rfl)
noncomputable abbrev Zbv.J:=FJ Zbv.env Zbv.an Zbv.code Zbv.ps Zbv.ros
noncomputable abbrev Zbv.L:=FL Zbv.env Zbv.an Zbv.code Zbv.ps Zbv.ros
def Zbv.l4 (h0 h1:(List Int)) (h2:Int):(Option Bool):=Zbv.L [1,1,0,1,0] (St.mk ((0,(V.val zt23 h0)) :: ((1,(V.val zt23 h1)) :: ((5,(V.val zt9 h2)) :: []))) [] 0)
def Zbv.j8:(Option Bool):=Zbv.J [1,1,1] (St.mk [] [] 0)
theorem Zbv.l4_eq (h0 h1:(List Int)) (h2:Int):Zbv.l4 h0 h1 h2 = iteB (ltI h2 (lenL h0)) (bindO (atL h0 h2) (fun (y3:Int)=>bindO (atL h1 h2) (fun (y4:Int)=>iteB (notB (eqI y3 y4)) ((some Bool.false)) (Zbv.l4 h0 h1 (addI .i64 h2 1))))) (Zbv.j8):=(Zcg Zbv.envC.ok.nat _ _ _).trans (by kernel_rfl)
theorem Zbv.j8_eq:Zbv.j8  = (some Bool.true):=Zdn (by kernel_rfl)
theorem spec_l4Ints_eq (p0a p1b:(List Int)):Zbv ((p0a,p1b)) = iteB (notB (eqI (lenL p0a) (lenL p1b))) ((some Bool.false)) (Zbv.l4 p0a p1b 0):=by kernel_rfl
abbrev Za3.ps:List PT:=[.val zt66,.val zt66]
abbrev Za3.ros:List (ResultVar × RO):=[(.tmp 4,.val (.bool))]
def Za3.env:Env:={ L:=tlist,G:=glist,C:=[(104,Zbv.en)] }
def Za3.an:Ann:={ lp:=[(4,[0,1,5]),(9,[0,1,5,6])],jn:=[(5,[0,1,5]),(13,[])],sc:=[(6,[(0,true),(1,true),(2,true),(3,true),(4,true),(5,true),(6,false),(7,false),(8,false),(9,false),(10,false),(11,false),(12,true),(13,true),(14,true),(15,true),(16,true),(17,true),(18,false),(19,false),(20,false),(21,false),(22,false),(23,false),(24,false),(25,true),(26,true),(27,true),(28,true),(29,true),(30,true),(31,true),(32,false),(33,false),(34,false),(35,false),(36,false),(37,false),(38,false)]),(11,[(0,true),(1,true),(2,true),(3,true),(4,true),(5,true),(6,true),(7,true),(8,true),(9,true),(10,true),(11,true),(12,true),(13,true),(14,false),(15,false),(16,false),(17,false),(18,false),(19,false),(20,true),(21,true),(22,true),(23,true),(24,true),(25,true),(26,true),(27,true),(28,true),(29,true),(30,true),(31,true),(32,true),(33,true),(34,false),(35,false),(36,false),(37,false),(38,false),(39,false),(40,false)])],kp:=[] }
def Za3.code:Code:=Tryz.f57.body.getD .skip
def Za3 (x:zt52 × zt52):(Option Bool):=fnR Za3.env Za3.an Za3.code Za3.ps Za3.ros x
noncomputable abbrev Za3.en:Zda:=entry Za3.ps Za3.ros Za3
theorem Za3.envC:EnvC Tryz.prog Za3.env:=(cns (.nilG lay_ok Zbh) Zbv.sat)
theorem Za3.sat:SatC Tryz.prog glist 57 Za3.en:=satY (fn:=Tryz.f57) (c:=Za3.code) (An:=Za3.an) Za3.envC (by kernel_rfl) (by kernel_rfl)
noncomputable abbrev Za3.J:=FJ Za3.env Za3.an Za3.code Za3.ps Za3.ros
noncomputable abbrev Za3.L:=FL Za3.env Za3.an Za3.code Za3.ps Za3.ros
def Za3.l4 (h0 h1:zt52) (h2:Int):(Option Bool):=Za3.L [1,1,0,1,0] (St.mk ((0,(V.val zt74 h0)) :: ((1,(V.val zt74 h1)) :: ((5,(V.val zt9 h2)) :: []))) [] 0)
def Za3.l9 (h0 h1:zt52) (h2 h3:Int):(Option Bool):=Za3.L [1,1,0,1,0,0,1,0,0,1,1,0] (St.mk ((0,(V.val zt74 h0)) :: ((1,(V.val zt74 h1)) :: ((5,(V.val zt9 h2)) :: ((6,(V.val zt9 h3)) :: [])))) [] 0)
def Za3.j13:(Option Bool):=Za3.J [1,1,1] (St.mk [] [] 0)
def Za3.j5 (h0 h1:zt52) (h2:Int):(Option Bool):=Za3.J [1,1,0,1,0,0,1,1] (St.mk ((0,(V.val zt74 h0)) :: ((1,(V.val zt74 h1)) :: ((5,(V.val zt9 h2)) :: []))) [] 0)
theorem Za3.l4_eq (h0 h1:zt52) (h2:Int):Za3.l4 h0 h1 h2 = iteB (ltI h2 (lenL h0)) (bindO (atL h0 h2) (fun (y3:zt45)=>bindO (atL h1 h2) (fun (y4:zt45)=>iteB (notB (eqS y3.1 y4.1)) ((some Bool.false)) (bindO (atL h0 h2) (fun (y5:zt45)=>bindO (atL h1 h2) (fun (y6:zt45)=>iteB (notB (eqS y5.2.1 y6.2.1)) ((some Bool.false)) (bindO (atL h0 h2) (fun (y7:zt45)=>bindO (atL h1 h2) (fun (y8:zt45)=>iteB (notB (eqI (lenL y7.2.2) (lenL y8.2.2))) ((some Bool.false)) (Za3.l9 h0 h1 h2 0)))))))))) (Za3.j13):=(Zcg Za3.envC.ok.nat _ _ _).trans (by kernel_rfl)
theorem Za3.l9_eq (h0 h1:zt52) (h2 h3:Int):Za3.l9 h0 h1 h2 h3 = bindO (atL h0 h2) (fun (y4:zt45)=>iteB (ltI h3 (lenL y4.2.2)) (bindO (atL h0 h2) (fun (y5:zt45)=>bindO (atL y5.2.2 h3) (fun (y6:zt2)=>bindO (atL h1 h2) (fun (y7:zt45)=>bindO (atL y7.2.2 h3) (fun (y8:zt2)=>iteB (notB (eqI y6.1 y8.1)) ((some Bool.false)) (bindO (atL h0 h2) (fun (y9:zt45)=>bindO (atL y9.2.2 h3) (fun (y10:zt2)=>bindO (atL h1 h2) (fun (y11:zt45)=>bindO (atL y11.2.2 h3) (fun (y12:zt2)=>bindO (Zbv (y10.2,y12.2)) (fun (y13:Bool)=>iteB (notB y13) ((some Bool.false)) (Za3.l9 h0 h1 h2 (addI .i64 h3 1))))))))))))) (Za3.j5 h0 h1 h2)):=(Zcg Za3.envC.ok.nat _ _ _).trans (by kernel_rfl)
theorem Za3.j13_eq:Za3.j13  = (some Bool.true):=Zdn (by kernel_rfl)
theorem Za3.j5_eq (h0 h1:zt52) (h2:Int):Za3.j5 h0 h1 h2 = Za3.l4 h0 h1 (addI .i64 h2 1):=Zdn (by kernel_rfl)
theorem spec_l4Same_eq (p0a p1b:zt52):Za3 ((p0a,p1b)) = iteB (notB (eqI (lenL p0a) (lenL p1b))) ((some Bool.false)) (Za3.l4 p0a p1b 0):=by kernel_rfl
abbrev Za4.ps:List PT:=[.val zt81]
abbrev Za4.ros:List (ResultVar × RO):=[(.tmp 2,.val (.bool))]
def Za4.env:Env:={ L:=tlist,G:=glist,C:=[(53,Zb3.en),(54,Zcc.en),(55,Zdf.en),(56,Zay.en),(58,Zbq.en),(57,Za3.en)] }
def Za4.an:Ann:={ lp:=[(2,[1,3])],jn:=[(7,[1])],sc:=[(5,[(0,true),(1,true),(2,false),(3,false),(4,false),(5,false),(6,false),(7,true),(8,true),(9,true),(10,true),(11,true),(13,true),(12,false),(14,false),(15,false),(16,false),(17,true),(18,true),(19,false),(20,false),(21,false),(22,false),(23,false),(24,false),(25,false),(26,false),(27,false),(28,false),(29,true),(30,true),(31,true),(32,true),(33,true),(34,true),(35,true),(36,false),(37,false),(38,false),(39,false),(40,false)]),(7,[(0,false),(1,false),(2,false),(3,false),(4,false),(5,false),(6,false),(7,false),(8,false),(9,false),(10,false),(11,false),(12,false),(13,false),(14,false),(15,true),(16,true),(17,true),(18,true),(20,true),(21,true),(19,false),(22,false),(23,false),(24,false)])],kp:=[] }
def Za4.code:Code:=Tryz.f15.body.getD .skip
def Za4 (x:zt77):(Option Bool):=fnR Za4.env Za4.an Za4.code Za4.ps Za4.ros x
noncomputable abbrev Za4.en:Zda:=entry Za4.ps Za4.ros Za4
theorem Za4.envC:EnvC Tryz.prog Za4.env:=(cns (cns (cns (cns (cns (cns (.nilG lay_ok Zbh) Za3.sat) Zbq.sat) Zay.sat) Zdf.sat) Zcc.sat) Zb3.sat)
theorem Za4.sat:SatC Tryz.prog glist 15 Za4.en:=satY (fn:=Tryz.f15) (c:=Za4.code) (An:=Za4.an) Za4.envC (by kernel_rfl) (by kernel_rfl)
noncomputable abbrev Za4.J:=FJ Za4.env Za4.an Za4.code Za4.ps Za4.ros
noncomputable abbrev Za4.L:=FL Za4.env Za4.an Za4.code Za4.ps Za4.ros
def Za4.l2 (h0:Int) (h1:zt24) (h2:zt51) (h3:zt52) (h4:Int):(Option Bool):=Za4.L [1,0,1,0] (St.mk ((1,(V.ptr 0 0)) :: ((3,(V.val zt9 h0)) :: [])) ((0,(some (Bx.cs ((V.val zt69 h1) :: ((V.val zt70 h2) :: ((V.val zt74 h3) :: ((V.val zt9 h4) :: []))))))) :: []) 1)
def Za4.j7 (h0:zt24) (h1:zt51) (h2:zt52) (h3:Int):(Option Bool):=Za4.J [1,1] (St.mk ((1,(V.ptr 0 0)) :: []) ((0,(some (Bx.cs ((V.val zt69 h0) :: ((V.val zt70 h1) :: ((V.val zt74 h2) :: ((V.val zt9 h3) :: []))))))) :: []) 1)
theorem Za4.l2_eq (h0:Int) (h1:zt24) (h2:zt51) (h3:zt52) (h4:Int):Za4.l2 h0 h1 h2 h3 h4 = iteB (ltI h0 (lenL h2)) (bindO (atL h2 h0) (fun (y5:zt44)=>bindO (Zb3 (h1,(y5.2.1,y5.2.2))) (fun (y6:Bool)=>iteB (notB y6) ((some Bool.false)) (bindO (Zcc (h2,y5.2.1)) (fun (y7:Int)=>iteB (notB (eqI y7 h0)) ((some Bool.false)) (bindO (Zdf (y5.1,(0,(subI .i64 h4 1)))) (fun (y8:Bool)=>iteB (notB y8) ((some Bool.false)) (iteB (ltI 0 h0) (bindO (atL h2 (subI .i64 h0 1)) (fun (y9:zt44)=>iteB (leI y5.1 y9.1) ((some Bool.false)) (Za4.l2 (addI .i64 h0 1) h1 h2 h3 h4))) (Za4.l2 (addI .i64 h0 1) h1 h2 h3 h4))))))))) (Za4.j7 h1 h2 h3 h4):=(Zcg Za4.envC.ok.nat _ _ _).trans (by kernel_rfl)
theorem Za4.j7_eq (h0:zt24) (h1:zt51) (h2:zt52) (h3:Int):Za4.j7 h0 h1 h2 h3 = bindO (Zay h0) (fun (y4:Bool)=>iteB y4 (iteB (leI (lenL h1) 8) (bindO (Zdf (h3,(0,999999999))) (fun (y5:Bool)=>iteB y5 (bindO (Zbq (h0,h1)) (fun (y6:zt52)=>bindO (Za3 (y6,h2)) (fun (y7:Bool)=>(some y7)))) ((some Bool.false)))) ((some Bool.false))) ((some Bool.false))):=Zdn (by kernel_rfl)
theorem spec_IndexOk_eq (p0x:zt77):Za4 (p0x) = Za4.l2 0 p0x.1 p0x.2.1 p0x.2.2.1 p0x.2.2.2:=by kernel_rfl
abbrev Zbn.ps:List PT:=[.val zt32,.val (.str)]
abbrev Zbn.ros:List (ResultVar × RO):=[(.tmp 4,.val (.str)),(.tmp 5,.val (.bool))]
def Zbn.env:Env:={ L:=tlist,G:=glist,C:=[] }
def Zbn.an:Ann:={ lp:=[(2,[1,2,6])],jn:=[(6,[])],sc:=[],kp:=[] }
def Zbn.code:Code:=Tryz.f99.body.getD .skip
def Zbn (x:zt39 × ByteArray):zt17:=fnR Zbn.env Zbn.an Zbn.code Zbn.ps Zbn.ros x
noncomputable abbrev Zbn.en:Zda:=entry Zbn.ps Zbn.ros Zbn
theorem Zbn.envC:EnvC Tryz.prog Zbn.env:=(.nilG lay_ok Zbh)
theorem Zbn.sat:SatC Tryz.prog glist 99 Zbn.en:=satY (fn:=Tryz.f99) (c:=Zbn.code) (An:=Zbn.an) Zbn.envC (by kernel_rfl) (by kernel_rfl)
noncomputable abbrev Zbn.J:=FJ Zbn.env Zbn.an Zbn.code Zbn.ps Zbn.ros
noncomputable abbrev Zbn.L:=FL Zbn.env Zbn.an Zbn.code Zbn.ps Zbn.ros
def Zbn.l2 (h0:ByteArray) (h1:Int) (h2:ByteArray) (h3:zt22):zt17:=Zbn.L [1,0,1,0] (St.mk ((1,(vs h0)) :: ((2,(V.ptr 0 0)) :: ((6,(V.val zt9 h1)) :: []))) ((0,(some (Bx.cs ((vs h2) :: ((V.val zt20 h3) :: []))))) :: []) 1)
def Zbn.j6:zt17:=Zbn.J [1,1] (St.mk [] [] 0)
theorem Zbn.l2_eq (h0:ByteArray) (h1:Int) (h2:ByteArray) (h3:zt22):Zbn.l2 h0 h1 h2 h3 = iteB (ltI h1 (lenL h3)) (bindO (atL h3 h1) (fun (y4:zt10)=>iteB (eqS y4.1 h0) (bindO (atL h3 h1) (fun (y5:zt10)=>(some (y5.2,Bool.true)))) (Zbn.l2 h0 (addI .i64 h1 1) h2 h3))) (Zbn.j6):=(Zcg Zbn.envC.ok.nat _ _ _).trans (by kernel_rfl)
theorem Zbn.j6_eq:Zbn.j6  = (some ((bs []),Bool.false)):=Zdn (by kernel_rfl)
theorem spec_DocText_eq (p0d:zt39) (p1name:ByteArray):Zbn ((p0d,p1name)) = Zbn.l2 p1name 0 p0d.1 p0d.2:=by kernel_rfl
abbrev Zdj.ps:List PT:=[.val zt42,.val zt32,.val (.str)]
abbrev Zdj.ros:List (ResultVar × RO):=[(.tmp 6,.val (.int .i64)),(.tmp 7,.val (.bool))]
def Zdj.env:Env:={ L:=tlist,G:=glist,C:=[(99,Zbn.en),(53,Zb3.en),(50,Zc9.en),(100,Zc0.en)] }
def Zdj.an:Ann:={ lp:=[],jn:=[],sc:=[],kp:=[] }
def Zdj.code:Code:=Tryz.f51.body.getD .skip
def Zdj (x:zt24 × zt39 × ByteArray):zt7:=fnR Zdj.env Zdj.an Zdj.code Zdj.ps Zdj.ros x
noncomputable abbrev Zdj.en:Zda:=entry Zdj.ps Zdj.ros Zdj
theorem Zdj.envC:EnvC Tryz.prog Zdj.env:=(cns (cns (cns (cns (.nilG lay_ok Zbh) Zc0.sat) Zc9.sat) Zb3.sat) Zbn.sat)
theorem Zdj.sat:SatC Tryz.prog glist 51 Zdj.en:=satY (fn:=Tryz.f51) (c:=Zdj.code) (An:=Zdj.an) Zdj.envC (by kernel_rfl) (by kernel_rfl)
theorem spec_DocNum_eq (p0fields:zt24) (p1d:zt39) (p2name:ByteArray):Zdj ((p0fields,(p1d,p2name))) = bindO (Zbn ((p1d.1,p1d.2),p2name)) (fun (y3:zt3)=>bindO (Zb3 (p0fields,(p1d.1,p1d.2))) (fun (y4:Bool)=>iteB (notB y4) ((some (0,Bool.false))) (iteB (notB y3.2) ((some (0,Bool.false))) (bindO (Zc9 (p0fields,(p2name,2))) (fun (y5:Bool)=>iteB (notB y5) ((some (0,Bool.false))) (bindO (Zc0 y3.1) (fun (y6:(Int × Bool))=>(some (y6.1,Bool.true))))))))):=by kernel_rfl
abbrev Zb9.ps:List PT:=[.val (.sl (.int .i64)),.val (.int .i64)]
abbrev Zb9.ros:List (ResultVar × RO):=[(.tmp 4,.val (.bool))]
def Zb9.env:Env:={ L:=tlist,G:=glist,C:=[] }
def Zb9.an:Ann:={ lp:=[(2,[0,1,5])],jn:=[(6,[])],sc:=[],kp:=[] }
def Zb9.code:Code:=Tryz.f52.body.getD .skip
def Zb9 (x:(List Int) × Int):(Option Bool):=fnR Zb9.env Zb9.an Zb9.code Zb9.ps Zb9.ros x
noncomputable abbrev Zb9.en:Zda:=entry Zb9.ps Zb9.ros Zb9
theorem Zb9.envC:EnvC Tryz.prog Zb9.env:=(.nilG lay_ok Zbh)
theorem Zb9.sat:SatC Tryz.prog glist 52 Zb9.en:=satY (fn:=Tryz.f52) (c:=Zb9.code) (An:=Zb9.an) Zb9.envC (by kernel_rfl) (by kernel_rfl)
noncomputable abbrev Zb9.J:=FJ Zb9.env Zb9.an Zb9.code Zb9.ps Zb9.ros
noncomputable abbrev Zb9.L:=FL Zb9.env Zb9.an Zb9.code Zb9.ps Zb9.ros
def Zb9.l2 (h0:(List Int)) (h1 h2:Int):(Option Bool):=Zb9.L [1,0,1,0] (St.mk ((0,(V.val zt23 h0)) :: ((1,(V.val zt9 h1)) :: ((5,(V.val zt9 h2)) :: []))) [] 0)
def Zb9.j6:(Option Bool):=Zb9.J [1,1] (St.mk [] [] 0)
theorem Zb9.l2_eq (h0:(List Int)) (h1 h2:Int):Zb9.l2 h0 h1 h2 = iteB (ltI h2 (lenL h0)) (bindO (atL h0 h2) (fun (y3:Int)=>iteB (eqI y3 h1) ((some Bool.true)) (Zb9.l2 h0 h1 (addI .i64 h2 1)))) (Zb9.j6):=(Zcg Zb9.envC.ok.nat _ _ _).trans (by kernel_rfl)
theorem Zb9.j6_eq:Zb9.j6  = (some Bool.false):=Zdn (by kernel_rfl)
theorem spec_l3Has_eq (p0list:(List Int)) (p1n:Int):Zb9 ((p0list,p1n)) = Zb9.l2 p0list p1n 0:=by kernel_rfl
abbrev Zaw.ps:List PT:=[.val zt81,.val (.sl (.int .i64)),.val (.str)]
abbrev Zaw.ros:List (ResultVar × RO):=[(.cell 6 32,.val zt58)]
def Zaw.env:Env:={ L:=tlist,G:=glist,C:=[(15,Za4.en),(50,Zc9.en),(51,Zdj.en),(52,Zb9.en)] }
def Zaw.an:Ann:={ lp:=[(5,[1,2,3,6,7,8])],jn:=[(6,[1,2,3,6,7,8]),(11,[1,2,3,6,7,8,9]),(13,[1,2,3,6,7,8,9]),(15,[6,7])],sc:=[(7,[(0,true),(1,true),(2,true),(3,true),(4,true),(5,true),(6,true),(7,true),(8,false),(9,false),(10,false),(11,true),(12,true),(13,false),(14,false)])],kp:=[] }
def Zaw.code:Code:=Tryz.f14.body.getD .skip
def Zaw (x:zt77 × (List Int) × ByteArray):zt31:=fnR Zaw.env Zaw.an Zaw.code Zaw.ps Zaw.ros x
noncomputable abbrev Zaw.en:Zda:=entry Zaw.ps Zaw.ros Zaw
theorem Zaw.envC:EnvC Tryz.prog Zaw.env:=(cns (cns (cns (cns (.nilG lay_ok Zbh) Zb9.sat) Zdj.sat) Zc9.sat) Za4.sat)
theorem Zaw.sat:SatC Tryz.prog glist 14 Zaw.en:=satY (fn:=Tryz.f14) (c:=Zaw.code) (An:=Zaw.an) Zaw.envC (by kernel_rfl) (by kernel_rfl)
noncomputable abbrev Zaw.J:=FJ Zaw.env Zaw.an Zaw.code Zaw.ps Zaw.ros
noncomputable abbrev Zaw.L:=FL Zaw.env Zaw.an Zaw.code Zaw.ps Zaw.ros
def Zaw.l5 (h0:(List Int)) (h1:ByteArray) (h2 h3 h4 h5 h6 h7 h8 h9 h10:Int) (h11:zt24) (h12:zt51) (h13:zt52) (h14:Int):zt31:=Zaw.L [1,1,1,0,1,0] (St.mk ((1,(V.val zt23 h0)) :: ((2,(vs h1)) :: ((3,(V.ptr 0 0)) :: ((6,(V.ptr 1 0)) :: ((7,(V.ptr 2 0)) :: ((8,(V.val zt9 h2)) :: [])))))) ((2,(some (Bx.cs ((V.val zt9 h3) :: ((V.val zt9 h4) :: ((V.val zt9 h5) :: ((V.val zt9 h6) :: []))))))) :: ((1,(some (Bx.cs ((V.val zt9 h7) :: ((V.val zt9 h8) :: ((V.val zt9 h9) :: ((V.val zt9 h10) :: []))))))) :: ((0,(some (Bx.cs ((V.val zt69 h11) :: ((V.val zt70 h12) :: ((V.val zt74 h13) :: ((V.val zt9 h14) :: []))))))) :: []))) 3)
def Zaw.j6 (h0:(List Int)) (h1:ByteArray) (h2 h3 h4 h5 h6 h7 h8 h9 h10:Int) (h11:zt24) (h12:zt51) (h13:zt52) (h14:Int):zt31:=Zaw.J [1,1,1,0,1,0,0,1,1] (St.mk ((1,(V.val zt23 h0)) :: ((2,(vs h1)) :: ((3,(V.ptr 0 0)) :: ((6,(V.ptr 1 0)) :: ((7,(V.ptr 2 0)) :: ((8,(V.val zt9 h2)) :: [])))))) ((2,(some (Bx.cs ((V.val zt9 h3) :: ((V.val zt9 h4) :: ((V.val zt9 h5) :: ((V.val zt9 h6) :: []))))))) :: ((1,(some (Bx.cs ((V.val zt9 h7) :: ((V.val zt9 h8) :: ((V.val zt9 h9) :: ((V.val zt9 h10) :: []))))))) :: ((0,(some (Bx.cs ((V.val zt69 h11) :: ((V.val zt70 h12) :: ((V.val zt74 h13) :: ((V.val zt9 h14) :: []))))))) :: []))) 3)
def Zaw.j11 (h0:(List Int)) (h1:ByteArray) (h2 h3 h4 h5 h6 h7 h8 h9 h10 h11:Int) (h12:zt24) (h13:zt51) (h14:zt52) (h15:Int):zt31:=Zaw.J [1,1,1,0,1,0,0,1,0,0,1,1,1] (St.mk ((1,(V.val zt23 h0)) :: ((2,(vs h1)) :: ((3,(V.ptr 0 0)) :: ((6,(V.ptr 1 0)) :: ((7,(V.ptr 2 0)) :: ((8,(V.val zt9 h2)) :: ((9,(V.val zt9 h3)) :: []))))))) ((2,(some (Bx.cs ((V.val zt9 h4) :: ((V.val zt9 h5) :: ((V.val zt9 h6) :: ((V.val zt9 h7) :: []))))))) :: ((1,(some (Bx.cs ((V.val zt9 h8) :: ((V.val zt9 h9) :: ((V.val zt9 h10) :: ((V.val zt9 h11) :: []))))))) :: ((0,(some (Bx.cs ((V.val zt69 h12) :: ((V.val zt70 h13) :: ((V.val zt74 h14) :: ((V.val zt9 h15) :: []))))))) :: []))) 3)
def Zaw.j15 (h0 h1 h2 h3 h4 h5 h6 h7:Int):zt31:=Zaw.J [1,1,1,1] (St.mk ((6,(V.ptr 0 0)) :: ((7,(V.ptr 1 0)) :: [])) ((1,(some (Bx.cs ((V.val zt9 h0) :: ((V.val zt9 h1) :: ((V.val zt9 h2) :: ((V.val zt9 h3) :: []))))))) :: ((0,(some (Bx.cs ((V.val zt9 h4) :: ((V.val zt9 h5) :: ((V.val zt9 h6) :: ((V.val zt9 h7) :: []))))))) :: [])) 2)
def Zaw.j13 (h0:(List Int)) (h1:ByteArray) (h2 h3 h4 h5 h6 h7 h8 h9 h10 h11:Int) (h12:zt24) (h13:zt51) (h14:zt52) (h15:Int):zt31:=Zaw.J [1,1,1,0,1,0,0,1,0,0,1,1,1,1] (St.mk ((1,(V.val zt23 h0)) :: ((2,(vs h1)) :: ((3,(V.ptr 0 0)) :: ((6,(V.ptr 1 0)) :: ((7,(V.ptr 2 0)) :: ((8,(V.val zt9 h2)) :: ((9,(V.val zt9 h3)) :: []))))))) ((2,(some (Bx.cs ((V.val zt9 h4) :: ((V.val zt9 h5) :: ((V.val zt9 h6) :: ((V.val zt9 h7) :: []))))))) :: ((1,(some (Bx.cs ((V.val zt9 h8) :: ((V.val zt9 h9) :: ((V.val zt9 h10) :: ((V.val zt9 h11) :: []))))))) :: ((0,(some (Bx.cs ((V.val zt69 h12) :: ((V.val zt70 h13) :: ((V.val zt74 h14) :: ((V.val zt9 h15) :: []))))))) :: []))) 3)
theorem Zaw.l5_eq (h0:(List Int)) (h1:ByteArray) (h2 h3 h4 h5 h6 h7 h8 h9 h10:Int) (h11:zt24) (h12:zt51) (h13:zt52) (h14:Int):Zaw.l5 h0 h1 h2 h3 h4 h5 h6 h7 h8 h9 h10 h11 h12 h13 h14 = iteB (ltI h2 (lenL h12)) (bindO (atL h12 h2) (fun (y15:zt44)=>bindO (Zdj (h11,(y15.2,h1))) (fun (y16:(Int × Bool))=>iteB (notB y16.2) (Zaw.j6 h0 h1 h2 h3 h4 h5 h6 h7 h8 h9 h10 h11 h12 h13 h14) (bindO (atL h12 h2) (fun (y17:zt44)=>bindO (Zb9 (h0,y17.1)) (fun (y18:Bool)=>iteB (notB y18) (Zaw.j6 h0 h1 h2 h3 h4 h5 h6 h7 h8 h9 h10 h11 h12 h13 h14) (iteB (eqI h3 0) (Zaw.j11 h0 h1 h2 y16.1 h3 h4 y16.1 h6 h7 h8 h9 h10 h11 h12 h13 h14) (iteB (ltI y16.1 h5) (Zaw.j11 h0 h1 h2 y16.1 h3 h4 y16.1 h6 h7 h8 h9 h10 h11 h12 h13 h14) (Zaw.j11 h0 h1 h2 y16.1 h3 h4 h5 h6 h7 h8 h9 h10 h11 h12 h13 h14))))))))) (Zaw.j15 h3 h4 h5 h6 h7 h8 h9 h10):=(Zcg Zaw.envC.ok.nat _ _ _).trans (by kernel_rfl)
theorem Zaw.j6_eq (h0:(List Int)) (h1:ByteArray) (h2 h3 h4 h5 h6 h7 h8 h9 h10:Int) (h11:zt24) (h12:zt51) (h13:zt52) (h14:Int):Zaw.j6 h0 h1 h2 h3 h4 h5 h6 h7 h8 h9 h10 h11 h12 h13 h14 = Zaw.l5 h0 h1 (addI .i64 h2 1) h3 h4 h5 h6 h7 h8 h9 h10 h11 h12 h13 h14:=Zdn (by kernel_rfl)
theorem Zaw.j11_eq (h0:(List Int)) (h1:ByteArray) (h2 h3 h4 h5 h6 h7 h8 h9 h10 h11:Int) (h12:zt24) (h13:zt51) (h14:zt52) (h15:Int):Zaw.j11 h0 h1 h2 h3 h4 h5 h6 h7 h8 h9 h10 h11 h12 h13 h14 h15 = iteB (eqI h4 0) (Zaw.j13 h0 h1 h2 h3 h4 h5 h6 h3 h8 h9 h10 h11 h12 h13 h14 h15) (iteB (ltI h7 h3) (Zaw.j13 h0 h1 h2 h3 h4 h5 h6 h3 h8 h9 h10 h11 h12 h13 h14 h15) (Zaw.j13 h0 h1 h2 h3 h4 h5 h6 h7 h8 h9 h10 h11 h12 h13 h14 h15)):=Zdn (by kernel_rfl)
theorem Zaw.j15_eq (h0 h1 h2 h3 h4 h5 h6 h7:Int):Zaw.j15 h0 h1 h2 h3 h4 h5 h6 h7 = (some (h0,(h1,(h2,h3)))):=Zdn (by kernel_rfl)
theorem Zaw.j13_eq (h0:(List Int)) (h1:ByteArray) (h2 h3 h4 h5 h6 h7 h8 h9 h10 h11:Int) (h12:zt24) (h13:zt51) (h14:zt52) (h15:Int):Zaw.j13 h0 h1 h2 h3 h4 h5 h6 h7 h8 h9 h10 h11 h12 h13 h14 h15 = Zaw.j6 h0 h1 h2 (addI .i64 h4 1) (addI .i64 h5 h3) h6 h7 h8 h9 h10 h11 h12 h13 h14 h15:=Zdn (by kernel_rfl)
theorem spec_StatOf_eq (p0x:zt77) (p1ids:(List Int)) (p2field:ByteArray):Zaw ((p0x,(p1ids,p2field))) = bindO (Za4 (p0x.1,(p0x.2.1,(p0x.2.2.1,p0x.2.2.2)))) (fun (y3:Bool)=>iteB (notB y3) ((some (0,(0,(0,0))))) (bindO (Zc9 (p0x.1,(p2field,2))) (fun (y4:Bool)=>iteB (notB y4) ((some (0,(0,(0,0))))) (Zaw.l5 p1ids p2field 0 0 0 0 0 0 0 0 0 p0x.1 p0x.2.1 p0x.2.2.1 p0x.2.2.2)))):=by kernel_rfl
abbrev Zb0.ps:List PT:=[.val zt42,.val (.str)]
abbrev Zb0.ros:List (ResultVar × RO):=[(.tmp 4,.val (.int .i64))]
def Zb0.env:Env:={ L:=tlist,G:=glist,C:=[] }
def Zb0.an:Ann:={ lp:=[(2,[0,1,5])],jn:=[(6,[])],sc:=[],kp:=[] }
def Zb0.code:Code:=Tryz.f16.body.getD .skip
def Zb0 (x:zt24 × ByteArray):(Option Int):=fnR Zb0.env Zb0.an Zb0.code Zb0.ps Zb0.ros x
noncomputable abbrev Zb0.en:Zda:=entry Zb0.ps Zb0.ros Zb0
theorem Zb0.envC:EnvC Tryz.prog Zb0.env:=(.nilG lay_ok Zbh)
theorem Zb0.sat:SatC Tryz.prog glist 16 Zb0.en:=satY (fn:=Tryz.f16) (c:=Zb0.code) (An:=Zb0.an) Zb0.envC (by kernel_rfl) (by kernel_rfl)
noncomputable abbrev Zb0.J:=FJ Zb0.env Zb0.an Zb0.code Zb0.ps Zb0.ros
noncomputable abbrev Zb0.L:=FL Zb0.env Zb0.an Zb0.code Zb0.ps Zb0.ros
def Zb0.l2 (h0:zt24) (h1:ByteArray) (h2:Int):(Option Int):=Zb0.L [1,0,1,0] (St.mk ((0,(V.val zt69 h0)) :: ((1,(vs h1)) :: ((5,(V.val zt9 h2)) :: []))) [] 0)
def Zb0.j6:(Option Int):=Zb0.J [1,1] (St.mk [] [] 0)
theorem Zb0.l2_eq (h0:zt24) (h1:ByteArray) (h2:Int):Zb0.l2 h0 h1 h2 = iteB (ltI h2 (lenL h0)) (bindO (atL h0 h2) (fun (y3:zt12)=>iteB (eqS y3.1 h1) (bindO (atL h0 h2) (fun (y4:zt12)=>(some y4.2.1))) (Zb0.l2 h0 h1 (addI .i64 h2 1)))) (Zb0.j6):=(Zcg Zb0.envC.ok.nat _ _ _).trans (by kernel_rfl)
theorem Zb0.j6_eq:Zb0.j6  = (some 0):=Zdn (by kernel_rfl)
theorem laws_sdKind_eq (p0fields:zt24) (p1name:ByteArray):Zb0 ((p0fields,p1name)) = Zb0.l2 p0fields p1name 0:=by kernel_rfl
abbrev Zcq.ps:List PT:=[.val (.sl (.int .i64)),.val (.int .i64)]
abbrev Zcq.ros:List (ResultVar × RO):=[(.tmp 4,.val (.bool))]
def Zcq.env:Env:={ L:=tlist,G:=glist,C:=[] }
def Zcq.an:Ann:={ lp:=[(2,[0,1,5])],jn:=[(6,[])],sc:=[],kp:=[] }
def Zcq.code:Code:=Tryz.f17.body.getD .skip
def Zcq (x:(List Int) × Int):(Option Bool):=fnR Zcq.env Zcq.an Zcq.code Zcq.ps Zcq.ros x
noncomputable abbrev Zcq.en:Zda:=entry Zcq.ps Zcq.ros Zcq
theorem Zcq.envC:EnvC Tryz.prog Zcq.env:=(.nilG lay_ok Zbh)
theorem Zcq.sat:SatC Tryz.prog glist 17 Zcq.en:=satY (fn:=Tryz.f17) (c:=Zcq.code) (An:=Zcq.an) Zcq.envC (by kernel_rfl) (by kernel_rfl)
noncomputable abbrev Zcq.J:=FJ Zcq.env Zcq.an Zcq.code Zcq.ps Zcq.ros
noncomputable abbrev Zcq.L:=FL Zcq.env Zcq.an Zcq.code Zcq.ps Zcq.ros
def Zcq.l2 (h0:(List Int)) (h1 h2:Int):(Option Bool):=Zcq.L [1,0,1,0] (St.mk ((0,(V.val zt23 h0)) :: ((1,(V.val zt9 h1)) :: ((5,(V.val zt9 h2)) :: []))) [] 0)
def Zcq.j6:(Option Bool):=Zcq.J [1,1] (St.mk [] [] 0)
theorem Zcq.l2_eq (h0:(List Int)) (h1 h2:Int):Zcq.l2 h0 h1 h2 = iteB (ltI h2 (lenL h0)) (bindO (atL h0 h2) (fun (y3:Int)=>iteB (eqI y3 h1) ((some Bool.true)) (Zcq.l2 h0 h1 (addI .i64 h2 1)))) (Zcq.j6):=(Zcg Zcq.envC.ok.nat _ _ _).trans (by kernel_rfl)
theorem Zcq.j6_eq:Zcq.j6  = (some Bool.false):=Zdn (by kernel_rfl)
theorem laws_sdIn_eq (p0list:(List Int)) (p1n:Int):Zcq ((p0list,p1n)) = Zcq.l2 p0list p1n 0:=by kernel_rfl
abbrev laws_FnStatParts.ps:List PT:=[.val (.sl (.int .u8))]
abbrev laws_FnStatParts.ros:List (ResultVar × RO):=[(.tmp 2,.val (.bool))]
def laws_FnStatParts.env:Env:={ L:=tlist,G:=glist,C:=[(12,Zbd.en),(13,Zbu.en),(14,Zaw.en),(15,Za4.en),(16,Zb0.en),(17,Zcq.en)] }
def laws_FnStatParts.an:Ann:={ lp:=[(10,[3,4,5,6,7,8,9])],jn:=[(11,[3,4,5,6,7,8,9]),(15,[3,5,6,7,8])],sc:=[(5,[(0,true),(1,true),(2,true),(3,false),(4,false),(5,false),(6,false),(7,false),(8,false),(9,false),(10,false),(11,false),(12,true),(13,true),(14,false),(15,false),(16,false),(17,false)]),(6,[(0,true),(1,true),(2,true),(3,false),(4,false),(5,false),(6,false)])],kp:=[] }
def laws_FnStatParts.code:Code:=Tryz.f3.body.getD .skip
def laws_FnStatParts (x:(List Int)):(Option Bool):=fnR laws_FnStatParts.env laws_FnStatParts.an laws_FnStatParts.code laws_FnStatParts.ps laws_FnStatParts.ros x
noncomputable abbrev laws_FnStatParts.en:Zda:=entry laws_FnStatParts.ps laws_FnStatParts.ros laws_FnStatParts
theorem laws_FnStatParts.envC:EnvC Tryz.prog laws_FnStatParts.env:=(cns (cns (cns (cns (cns (cns (.nilG lay_ok Zbh) Zcq.sat) Zb0.sat) Za4.sat) Zaw.sat) Zbu.sat) Zbd.sat)
theorem laws_FnStatParts.sat:SatC Tryz.prog glist 3 laws_FnStatParts.en:=satY (fn:=Tryz.f3) (c:=laws_FnStatParts.code) (An:=laws_FnStatParts.an) laws_FnStatParts.envC (by kernel_rfl) (by kernel_rfl)
noncomputable abbrev laws_FnStatParts.J:=FJ laws_FnStatParts.env laws_FnStatParts.an laws_FnStatParts.code laws_FnStatParts.ps laws_FnStatParts.ros
noncomputable abbrev laws_FnStatParts.L:=FL laws_FnStatParts.env laws_FnStatParts.an laws_FnStatParts.code laws_FnStatParts.ps laws_FnStatParts.ros
def laws_FnStatParts.l10 (h0:ByteArray) (h1:Int) (h2 h3:(List Int)) (h4 h5 h6 h7:Int) (h8:(List Int)) (h9:zt24) (h10:zt51) (h11:zt52) (h12:Int):(Option Bool):=laws_FnStatParts.L [1,1,1,1,1,1,1,0,1,0] (St.mk ((3,(V.ptr 0 0)) :: ((4,(V.arr 1)) :: ((5,(vs h0)) :: ((6,(V.ptr 2 0)) :: ((7,(V.arr 3)) :: ((8,(V.arr 4)) :: ((9,(V.val zt9 h1)) :: []))))))) ((4,(some (Bx.rows zt9 h2))) :: ((3,(some (Bx.rows zt9 h3))) :: ((2,(some (Bx.cs ((V.val zt9 h4) :: ((V.val zt9 h5) :: ((V.val zt9 h6) :: ((V.val zt9 h7) :: []))))))) :: ((1,(some (Bx.rows zt9 h8))) :: ((0,(some (Bx.cs ((V.val zt69 h9) :: ((V.val zt70 h10) :: ((V.val zt74 h11) :: ((V.val zt9 h12) :: []))))))) :: []))))) 5)
def laws_FnStatParts.j11 (h0:ByteArray) (h1:Int) (h2 h3:(List Int)) (h4 h5 h6 h7:Int) (h8:(List Int)) (h9:zt24) (h10:zt51) (h11:zt52) (h12:Int):(Option Bool):=laws_FnStatParts.J [1,1,1,1,1,1,1,0,1,0,0,1,1] (St.mk ((3,(V.ptr 0 0)) :: ((4,(V.arr 1)) :: ((5,(vs h0)) :: ((6,(V.ptr 2 0)) :: ((7,(V.arr 3)) :: ((8,(V.arr 4)) :: ((9,(V.val zt9 h1)) :: []))))))) ((4,(some (Bx.rows zt9 h2))) :: ((3,(some (Bx.rows zt9 h3))) :: ((2,(some (Bx.cs ((V.val zt9 h4) :: ((V.val zt9 h5) :: ((V.val zt9 h6) :: ((V.val zt9 h7) :: []))))))) :: ((1,(some (Bx.rows zt9 h8))) :: ((0,(some (Bx.cs ((V.val zt69 h9) :: ((V.val zt70 h10) :: ((V.val zt74 h11) :: ((V.val zt9 h12) :: []))))))) :: []))))) 5)
def laws_FnStatParts.j15 (h0:ByteArray) (h1 h2:(List Int)) (h3 h4 h5 h6:Int) (h7:zt24) (h8:zt51) (h9:zt52) (h10:Int):(Option Bool):=laws_FnStatParts.J [1,1,1,1,1,1,1,1] (St.mk ((3,(V.ptr 0 0)) :: ((5,(vs h0)) :: ((6,(V.ptr 1 0)) :: ((7,(V.arr 2)) :: ((8,(V.arr 3)) :: []))))) ((3,(some (Bx.rows zt9 h1))) :: ((2,(some (Bx.rows zt9 h2))) :: ((1,(some (Bx.cs ((V.val zt9 h3) :: ((V.val zt9 h4) :: ((V.val zt9 h5) :: ((V.val zt9 h6) :: []))))))) :: ((0,(some (Bx.cs ((V.val zt69 h7) :: ((V.val zt70 h8) :: ((V.val zt74 h9) :: ((V.val zt9 h10) :: []))))))) :: [])))) 4)
theorem laws_FnStatParts.l10_eq (h0:ByteArray) (h1:Int) (h2 h3:(List Int)) (h4 h5 h6 h7:Int) (h8:(List Int)) (h9:zt24) (h10:zt51) (h11:zt52) (h12:Int):laws_FnStatParts.l10 h0 h1 h2 h3 h4 h5 h6 h7 h8 h9 h10 h11 h12 = iteB (ltI h1 (lenL h10)) (bindO (atL h10 h1) (fun (y13:zt44)=>iteB (Zek h3 (y13.1 :: [])) (bindO (atL h10 h1) (fun (y14:zt44)=>bindO (Zcq (h8,y14.1)) (fun (y15:Bool)=>iteB (notB y15) (bindO (atL h10 h1) (fun (y16:zt44)=>iteB (Zek h2 (y16.1 :: [])) (laws_FnStatParts.j11 h0 h1 (appL h2 (y16.1 :: [])) (appL h3 (y13.1 :: [])) h4 h5 h6 h7 h8 h9 h10 h11 h12) (none))) (laws_FnStatParts.j11 h0 h1 h2 (appL h3 (y13.1 :: [])) h4 h5 h6 h7 h8 h9 h10 h11 h12)))) (none))) (laws_FnStatParts.j15 h0 h2 h3 h4 h5 h6 h7 h9 h10 h11 h12):=(Zcg laws_FnStatParts.envC.ok.nat _ _ _).trans (by kernel_rfl)
theorem laws_FnStatParts.j11_eq (h0:ByteArray) (h1:Int) (h2 h3:(List Int)) (h4 h5 h6 h7:Int) (h8:(List Int)) (h9:zt24) (h10:zt51) (h11:zt52) (h12:Int):laws_FnStatParts.j11 h0 h1 h2 h3 h4 h5 h6 h7 h8 h9 h10 h11 h12 = laws_FnStatParts.l10 h0 (addI .i64 h1 1) h2 h3 h4 h5 h6 h7 h8 h9 h10 h11 h12:=Zdn (by kernel_rfl)
theorem laws_FnStatParts.j15_eq (h0:ByteArray) (h1 h2:(List Int)) (h3 h4 h5 h6:Int) (h7:zt24) (h8:zt51) (h9:zt52) (h10:Int):laws_FnStatParts.j15 h0 h1 h2 h3 h4 h5 h6 h7 h8 h9 h10 = bindO (Zbu ((h7,(h8,(h9,h10))),(h2,h0))) (fun (y11:zt18)=>bindO (Zbu ((h7,(h8,(h9,h10))),(h1,h0))) (fun (y12:zt18)=>iteB (eqI (addI .i64 h3 y12.1) y11.1) (iteB (eqI (addI .i64 h4 y12.2.1) y11.2.1) (iteB (eqI h3 0) ((some Bool.true)) (iteB (leI y11.2.2.1 h5) ((some (leI h6 y11.2.2.2))) ((some Bool.false)))) ((some Bool.false))) ((some Bool.false)))):=Zdn (by kernel_rfl)
theorem laws_FnStatParts_eq (p0t:(List Int)):laws_FnStatParts (p0t) = iteB (ltI 1048576 (lenL p0t)) ((some Bool.true)) (bindO (Zbd p0t) (fun (y1:(zt77 × ((List Int) × ByteArray)))=>bindO (Zbu ((y1.1.1,(y1.1.2.1,(y1.1.2.2.1,y1.1.2.2.2))),(y1.2.1,y1.2.2))) (fun (y2:zt18)=>bindO (Zaw ((y1.1.1,(y1.1.2.1,(y1.1.2.2.1,y1.1.2.2.2))),(y1.2.1,y1.2.2))) (fun (y3:zt18)=>iteB (notB (andB (eqI y2.1 y3.1) (andB (eqI y2.2.1 y3.2.1) (andB (eqI y2.2.2.1 y3.2.2.1) (eqI y2.2.2.2 y3.2.2.2))))) (bindO (Zaw ((y1.1.1,(y1.1.2.1,(y1.1.2.2.1,y1.1.2.2.2))),(y1.2.1,y1.2.2))) (fun (y4:zt18)=>(some (andB (eqI y2.1 y4.1) (andB (eqI y2.2.1 y4.2.1) (andB (eqI y2.2.2.1 y4.2.2.1) (eqI y2.2.2.2 y4.2.2.2))))))) (bindO (Za4 (y1.1.1,(y1.1.2.1,(y1.1.2.2.1,y1.1.2.2.2)))) (fun (y4:Bool)=>iteB (notB y4) (bindO (Zaw ((y1.1.1,(y1.1.2.1,(y1.1.2.2.1,y1.1.2.2.2))),(y1.2.1,y1.2.2))) (fun (y5:zt18)=>(some (andB (eqI y2.1 y5.1) (andB (eqI y2.2.1 y5.2.1) (andB (eqI y2.2.2.1 y5.2.2.1) (eqI y2.2.2.2 y5.2.2.2))))))) (bindO (Zb0 (y1.1.1,y1.2.2)) (fun (y5:Int)=>iteB (notB (eqI y5 2)) (bindO (Zaw ((y1.1.1,(y1.1.2.1,(y1.1.2.2.1,y1.1.2.2.2))),(y1.2.1,y1.2.2))) (fun (y6:zt18)=>(some (andB (eqI y2.1 y6.1) (andB (eqI y2.2.1 y6.2.1) (andB (eqI y2.2.2.1 y6.2.2.1) (eqI y2.2.2.2 y6.2.2.2))))))) (laws_FnStatParts.l10 y1.2.2 0 [] [] y2.1 y2.2.1 y2.2.2.1 y2.2.2.2 y1.2.1 y1.1.1 y1.1.2.1 y1.1.2.2.1 y1.1.2.2.2))))))))):=by kernel_rfl
end Go.E
