import Derived.Test.YtdpmeckhhcjoiaaGreatDoorRows
import Derived.Test.YtdpmeckhhcjoiaaGreatDoorRouteRunsW7
import Derived.Test.YtdpmeckhhcjoiaaGreatDoorRouteRunsRnA
import Derived.Test.YtdpmeckhhcjoiaaGreatDoorRouteRunsRnB
import Derived.Test.YtdpmeckhhcjoiaaGreatDoorRouteRunsRnC
import Derived.Test.YtdpmeckhhcjoiaaGreatDoorRouteRunsRnD
import Derived.Test.YtdpmeckhhcjoiaaGreatDoorRouteRunsRnE
import Derived.Test.YtdpmeckhhcjoiaaGreatDoorGf
import Derived.Test.YtdpmeckhhcjoiaaGreatDoorTie
import Derived.Test.YtdpmeckhhcjoiaaGreatDoorCards
import Derived.SevenTiedAt
import Derived.LaidMore
import Derived.Lay
import Derived.Stop.Joined
namespace Go.Proofs.YtdpmeckhhcjoiaaGreatDoor.RouteRuns
open Go Go.ChangeShapes Go.WideShapes Go.ChangeAt Go.RowKit Go.Gw Go.Pu Go.Proofs.YtdpmeckhhcjoiaaGreatDoor.M Go.Proofs.YtdpmeckhhcjoiaaGreatDoor.W
set_option linter.unusedVariables false
set_option linter.unusedSimpArgs false
theorem own:ownKnob Tryz.prog.godebug=none:=by kernel_rfl
theorem zsk:laidOutB Tryz.prog=true:=by kernel_rfl
theorem tys:(Tryz.f3.params.toList.all fun a=>Tryz.prog.readableRec a&&decide (a<Tryz.prog.types.size))=true:=by kernel_rfl
theorem zpj:Tryz.prog.cellsOf 36=6:=by kernel_rfl
theorem zoT:Tryz.prog.cellsOf 86=3:=by kernel_rfl
theorem zsH:Tryz.prog.cellsOf 4=1:=by kernel_rfl
theorem zpi:Tryz.prog.cellsOf 74=4:=by kernel_rfl
theorem zrN:Tryz.prog.cellsOf 72=1:=by kernel_rfl
theorem zoK:Tryz.prog.cellsOf 83=2:=by kernel_rfl
theorem zoW:Tryz.prog.cellsOf 71=1:=by kernel_rfl
theorem zpb:Tryz.prog.cellsOf 80=3:=by kernel_rfl
theorem zoS:Tryz.prog.cellsOf 70=2:=by kernel_rfl
theorem zsc:Tryz.prog.cellsOf 68=1:=by kernel_rfl
theorem zpf:Tryz.prog.cellsOf 77=2:=by kernel_rfl
theorem zpg:Tryz.prog.cellsOf 64=4:=by kernel_rfl
theorem zoJ:Tryz.prog.cellsOf 34=1:=by kernel_rfl
theorem zpa:Tryz.prog.cellsOf 67=2:=by kernel_rfl
theorem zsE:Tryz.prog.cellsOf 9=1:=by kernel_rfl
theorem zaE:Tryz.prog.cellsOf 3=1:=by kernel_rfl
theorem o3:Opn Tryz.prog 3 Int:=zrM Tryz.underlying3
theorem o9:Opn Tryz.prog 9 ByteArray:=zrV Tryz.underlying9
theorem o67:Opn Tryz.prog 67 zm:=zbQ (β:=ByteArray×Int) (fun (a:zm)=>(a.name,a.rank)) (fun b=>(⟨b.1,b.2⟩:zm)) (fun _=>rfl) Tryz.underlying67 zpa (jA rfl zsE o9 (zdr rfl zaE o3))
theorem o34:Opn Tryz.prog 34 (List zm):=zcF Tryz.underlying34 o67 zpa (by decide)
theorem o64:Opn Tryz.prog 64 ze:=zbQ (β:=Int×Int×Int×(List zm)) (fun (a:ze)=>(a.no,a.capacity,a.calendar,a.skills)) (fun b=>(⟨b.1,b.2.1,b.2.2.1,b.2.2.2⟩:ze)) (fun _=>rfl) Tryz.underlying64 zpg (jA rfl zaE o3 (jA rfl zaE o3 (jA rfl zaE o3 (zdr rfl zoJ o34))))
theorem o22:Opn Tryz.prog 22 (List ze):=zcF Tryz.underlying22 o64 zpg (by decide)
theorem o77:Opn Tryz.prog 77 ZE:=zbQ (β:=Int×Int) (fun (a:ZE)=>(a.at_,a.offset)) (fun b=>(⟨b.1,b.2⟩:ZE)) (fun _=>rfl) Tryz.underlying77 zpf (jA rfl zaE o3 (zdr rfl zaE o3))
theorem o68:Opn Tryz.prog 68 (List ZE):=zcF Tryz.underlying68 o77 zpf (by decide)
theorem o70:Opn Tryz.prog 70 Zy:=zbQ (β:=Int×(List ZE)) (fun (a:Zy)=>(a.offset,a.changes)) (fun b=>(⟨b.1,b.2⟩:Zy)) (fun _=>rfl) Tryz.underlying70 zoS (jA rfl zaE o3 (zdr rfl zsc o68))
theorem o80:Opn Tryz.prog 80 zK:=zbQ (β:=Int×Int×Int) (fun (a:zK)=>(a.day,a.from_,a.to_)) (fun b=>(⟨b.1,b.2.1,b.2.2⟩:zK)) (fun _=>rfl) Tryz.underlying80 zpb (jA rfl zaE o3 (jA rfl zaE o3 (zdr rfl zaE o3)))
theorem o71:Opn Tryz.prog 71 (List zK):=zcF Tryz.underlying71 o80 zpb (by decide)
theorem o83:Opn Tryz.prog 83 Zb:=zbQ (β:=Int×(List zK)) (fun (a:Zb)=>(a.day,a.shifts)) (fun b=>(⟨b.1,b.2⟩:Zb)) (fun _=>rfl) Tryz.underlying83 zoK (jA rfl zaE o3 (zdr rfl zoW o71))
theorem o72:Opn Tryz.prog 72 (List Zb):=zcF Tryz.underlying72 o83 zoK (by decide)
theorem o74:Opn Tryz.prog 74 zi:=zbQ (β:=Zy×(List zK)×(List Zb)) (fun (a:zi)=>(a.zone,a.week,a.specials)) (fun b=>(⟨b.1,b.2.1,b.2.2⟩:zi)) (fun _=>rfl) Tryz.underlying74 zpi (jA rfl zoS o70 (jA rfl zoW o71 (zdr rfl zrN o72)))
theorem o23:Opn Tryz.prog 23 (List zi):=zcF Tryz.underlying23 o74 zpi (by decide)
theorem o4:Opn Tryz.prog 4 Bool:=zrF Tryz.underlying4
theorem o86:Opn Tryz.prog 86 zt:=zbQ (β:=Int×Int×Bool) (fun (a:zt)=>(a.after,a.lower,a.any)) (fun b=>(⟨b.1,b.2.1,b.2.2⟩:zt)) (fun _=>rfl) Tryz.underlying86 zoT (jA rfl zaE o3 (jA rfl zaE o3 (zdr rfl zsH o4)))
theorem o24:Opn Tryz.prog 24 (List zt):=zcF Tryz.underlying24 o86 zoT (by decide)
theorem o36:Opn Tryz.prog 36 za:=zbQ (β:=Int×Int×Int×Int×Int×(List zm)) (fun (a:za)=>(a.ticket,a.weight,a.urgency,a.since,a.former,a.needs)) (fun b=>(⟨b.1,b.2.1,b.2.2.1,b.2.2.2.1,b.2.2.2.2.1,b.2.2.2.2.2⟩:za)) (fun _=>rfl) Tryz.underlying36 zpj (jA rfl zaE o3 (jA rfl zaE o3 (jA rfl zaE o3 (jA rfl zaE o3 (jA rfl zaE o3 (zdr rfl zoJ o34))))))
theorem o25:Opn Tryz.prog 25 (List za):=zcF Tryz.underlying25 o36 zpj (by decide)
theorem o26:Opn Tryz.prog 26 (List Int):=zcF Tryz.underlying26 o3 zaE (by decide)
set_option maxRecDepth 100000 in
theorem zsr(os:Os)(D:os.Started)(a3:Type)(enc:TypeId×Value→a3):
  ReturnsInHanded {} Tryz.checked os 3 .any (fun a b=>(Rows.routeRunsSpec.pre enc Tryz.prog Tryz.f3 Rows.routeRunsRow.domain false a b∧laidMetH Tryz.prog Rows.routeRunsRow.laid a)∧sizedMet enc Tryz.prog Tryz.f3 (OpenSpec.ofChange Rows.routeRunsSpec) false a b) (Rows.routeRunsSpec.post enc Tryz.prog Tryz.f3 false true false false):=by{
 refine returnsInHanded_of_change_and (C:=Tryz.checked) (X:=fun a _=>laidMetH Tryz.prog Rows.routeRunsRow.laid a) (fun _ _ _ I a4=>a4.of_heap I) own D (by kernel_rfl) Tryz.func3
  (ChangeSpec.witness_shaped (enc:=enc) (C:=Tryz.checked) (os:=os) (X:=fun a _=>laidMetH Tryz.prog Rows.routeRunsRow.laid a) false (World.laidAll Tryz.prog os Rows.routeRunsRow.laid) #[.slice none 0 0,.slice none 0 0,.slice none 0 0,.slice none 0 0,.slice none 0 0] 8 (World.laidAll_os _ _ _) (World.shaped_of_ZipB (by kernel_rfl) (by kernel_rfl)) (by kernel_rfl) (by kernel_rfl) (by kernel_rfl)
   (by rw[MakeChecks.laidMetH_plain _ _ _ (by kernel_rfl)];exact laidMet_laidAll _ (by kernel_rfl) (by kernel_rfl))) ?_
 intro n base b J u zfF q f _ _ c2 _;have c:∀(B:Nat) t o,Tryz.f3.params[B]?=some t→b[B]?=some o→Value.okWide Tryz.prog n .any base t o:=q
 have E:u=[]:=by
  obtain⟨e,a5,_,v,_⟩:=f
  cases u with
  | nil=>rfl
  | cons g r=>exact v.elim
 subst E;have F:=f;obtain⟨e,a5,s,v,rfl,a7,a8⟩:=f;have h:DataW.TrodAll enc Tryz.prog n 0 (fun _=>true) true Tryz.f3.params.toList b.toList J e:=s;rw[Tryz.params3]at h c;obtain⟨i,a9,c3,b0,c4,c5,a6,rfl,rfl,K,L⟩:=trodAll_cons h;obtain⟨j,b1,c6,b2,c7,c8,rfl,rfl,rfl,M,N⟩:=trodAll_cons L;obtain⟨k,b3,c9,b4,d0,d1,rfl,rfl,rfl,O,P⟩:=trodAll_cons N;obtain⟨l,b5,d2,b6,d3,d4,rfl,rfl,rfl,Q,R⟩:=trodAll_cons P;obtain⟨m,b7,d5,b8,d6,d7,rfl,rfl,rfl,S,T⟩:=trodAll_cons R;obtain⟨rfl,rfl,rfl⟩:=trodAll_nil T;obtain rfl:b=#[i,j,k,l,m]:=by cases b;simp_all
 obtain⟨w,U,G⟩:=zfE o22 Tryz.underlying22 (c 0 22 i rfl rfl) K;obtain⟨x,W,b9⟩:=zfE o23 Tryz.underlying23 (c 1 23 j rfl rfl) M;obtain⟨y,X,c0⟩:=zfE o24 Tryz.underlying24 (c 2 24 k rfl rfl) O;obtain⟨z,Z,H⟩:=zfE o25 Tryz.underlying25 (c 3 25 l rfl rfl) Q;obtain⟨A,a0,c1⟩:=zfE o26 Tryz.underlying26 (c 4 26 m rfl rfl) S;clear s h q;refine Calls.mono (ziY n (fun _ _=>trivial) w i U x j W y k X z l Z A m a0 (zqq w x y z A (fun e a1 p d=>(((G.2 e a1).2.2.2.2 p d).1)) (fun a a2 p d=>((H.2 a a2).2.2.2.2.2.2 p d).1))) ?_;rintro d9 d8⟨o,rfl,rfl,d⟩;exact⟨_,rfl,zrg rfl rfl rfl rfl rfl Tryz.underlying4 zsk tys F d.below⟩}
theorem said:Rows.RouteRunsSaid :=
 OpenClaim.holds_of_wide 3 Tryz.f3 rfl rfl rfl rfl rfl rfl rfl ⟨rfl,rfl,rfl,rfl,rfl⟩ rfl rfl rfl rfl rfl (by kernel_rfl) Tryz.func3 (by kernel_rfl)
  (of_decide_eq_true (by kernel_rfl)) (by unfold Func.isWrapper;first | (rw[if_pos (by decide +kernel)];kernel_rfl) | (rw[if_neg (by decide +kernel)];exact⟨rfl,rfl⟩))
  (fun c a d b _=>zsr c a d b)
theorem proved:Rows.RouteRunsCardSaid :=
 Claim7.holds_tied_plain_at .later [] [.data,.pinned] true (true, "b2667075673a5a797a8d7b8f0d4f50d70e94b3207ac99fd37adbf96c6a446f90") true
  said (fun _ h=>by cases h) (by kernel_rfl) (fun _ h=>by cases h) routeRuns_row_tie rfl ⟨rfl,rfl⟩ (by kernel_rfl) rfl
  (fun f fn hf hfn=>by
   obtain rfl:f=3:=Option.some.inj ((show Tryz.prog.funcNamed "porterslodge/portlaw2.RouteRuns" = some 3 by kernel_rfl).symm.trans hf) |>.symm
   obtain rfl:fn=Tryz.f3:=(Option.some.inj (Tryz.func3.symm.trans hfn)).symm
   exact⟨by kernel_rfl,fun j t ht=>by
    rw[Tryz.params3]at ht
    have hm:t∈[22,23,24,25,26]:=by simpa using Array.mem_of_getElem? ht
    have hall:([22,23,24,25,26].all fun u=>!Tryz.prog.wantsStandIn u)=true:=by kernel_rfl
    exact (show Tryz.prog.wantsStandIn t=false by simpa using List.all_eq_true.1 hall t hm)⟩)
  (by kernel_rfl)
#print axioms proved
end Go.Proofs.YtdpmeckhhcjoiaaGreatDoor.RouteRuns
