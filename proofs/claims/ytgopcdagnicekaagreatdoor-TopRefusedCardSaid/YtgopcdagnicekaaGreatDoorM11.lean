/- Facts on the types. No condition. -/
import Derived.Test.YtgopcdagnicekaaGreatDoorM10
set_option linter.all false
open Go.Proofs.Tryz
namespace Go.Proofs.YtgopcdagnicekaaGreatDoor
open Go.RowKit
set_option maxRecDepth 100000
theorem qN:mM prog 2:=⟨⟨_,underlying2,rfl⟩,by kernel_rfl⟩
theorem wA:∃i,prog.info? 2=some i/\i.zero=some (.int .i64 0):=⟨_,rfl,rfl⟩
theorem bn:mM prog 3:=⟨⟨_,underlying3,rfl⟩,by kernel_rfl⟩
theorem gY:∃i,prog.info? 3=some i/\i.zero=some (.int .i64 0):=⟨_,rfl,rfl⟩
theorem eD:mM prog 4:=⟨⟨_,underlying4,rfl⟩,by kernel_rfl⟩
theorem DI:∃i,prog.info? 4=some i/\i.zero=some (.bool false):=⟨_,rfl,rfl⟩
theorem dX:mM prog 5:=⟨⟨_,underlying5,rfl⟩,by kernel_rfl⟩
theorem iN:∃i,prog.info? 5=some i/\i.zero=some (.int .u8 0):=⟨_,rfl,rfl⟩
theorem rJ:mM prog 22:=⟨⟨_,underlying22,rfl⟩,by kernel_rfl⟩
theorem mh:mM prog 25:=⟨⟨_,underlying25,rfl⟩,by kernel_rfl⟩
theorem rv:mM prog 26:=⟨⟨_,underlying26,rfl⟩,by kernel_rfl⟩
theorem bC:oh prog 28 4:=⟨⟨_,underlying28,rfl⟩,by kernel_rfl⟩
theorem vL:rG prog 28 2 2 25:=⟨_,_,underlying28,rfl,rfl,rfl⟩
theorem cM:∃i,prog.info? 28=some i/\i.zero=some (.agg #[.int .i64 0,.int .i64 0,bM,bM]):=⟨_,rfl,rfl⟩
theorem iG:oh prog 30 15:=⟨⟨_,underlying30,rfl⟩,by kernel_rfl⟩
theorem dJ:∃i,prog.info? 30=some i/\i.zero=some (.agg #[.int .i64 0,.int .i64 0,bM,.int .i64 0,.int .i64 0,bM,bM,.int .i64 0,.int .i64 0,bM,bM,.int .i64 0,.int .i64 0,bM,bM]):=⟨_,rfl,rfl⟩
theorem wC:oh prog 39 4:=⟨⟨_,underlying39,rfl⟩,by kernel_rfl⟩
theorem mO:∃i,prog.info? 39=some i/\i.zero=some (.agg #[.int .i64 0,.int .i64 0,.int .i64 0,.int .i64 0]):=⟨_,rfl,rfl⟩
theorem bF:mM prog 43:=⟨⟨_,underlying43,rfl⟩,by kernel_rfl⟩
theorem jm:∃i,prog.info? 43=some i/\i.zero=some bM:=⟨_,rfl,rfl⟩
theorem j3:mM prog 50:=⟨⟨_,underlying50,rfl⟩,by kernel_rfl⟩
theorem az:oh prog 52 2:=⟨⟨_,underlying52,rfl⟩,by kernel_rfl⟩
theorem j4:rG prog 52 0 0 4:=⟨_,_,underlying52,rfl,rfl,rfl⟩
theorem ig:rG prog 52 1 1 50:=⟨_,_,underlying52,rfl,rfl,rfl⟩
theorem bA:∃i,prog.info? 52=some i/\i.zero=some (.agg #[.bool false,bM]):=⟨_,rfl,rfl⟩
theorem aO:oh prog 61 2:=⟨⟨_,underlying61,rfl⟩,by kernel_rfl⟩
theorem b6:∃i,prog.info? 61=some i/\i.zero=some (.agg #[.int .i64 0,.int .i64 0]):=⟨_,rfl,rfl⟩
theorem ry:oh prog 69 2:=⟨⟨_,underlying69,rfl⟩,by kernel_rfl⟩
theorem lV:∃i,prog.info? 69=some i/\i.zero=some (.agg #[.int .i64 0,.int .i64 0]):=⟨_,rfl,rfl⟩
theorem eC:mM prog 77:=⟨⟨_,underlying77,rfl⟩,by kernel_rfl⟩
theorem xB:∃i,prog.info? 77=some i/\i.zero=some (.pointer none):=⟨_,rfl,rfl⟩
theorem qA:mM prog 98:=⟨⟨_,underlying98,rfl⟩,by kernel_rfl⟩
theorem jf:oh prog 108 5:=⟨⟨_,underlying108,rfl⟩,by kernel_rfl⟩
theorem k8:∃i,prog.info? 108=some i/\i.zero=some (.agg #[.int .i64 0,.int .i64 0,bM,bM,.nilFunc]):=⟨_,rfl,rfl⟩
theorem Bq:oh prog 112 3:=⟨⟨_,underlying112,rfl⟩,by kernel_rfl⟩
theorem oT:∃i,prog.info? 112=some i/\i.zero=some (.agg #[.pointer none,.pointer none,.pointer none]):=⟨_,rfl,rfl⟩
theorem aF:oh prog 116 5:=⟨⟨_,underlying116,rfl⟩,by kernel_rfl⟩
theorem bm:∃i,prog.info? 116=some i/\i.zero=some (.agg #[.int .i64 0,.int .i64 0,.int .i64 0,.int .i64 0,.int .i64 0]):=⟨_,rfl,rfl⟩
theorem kM:mM prog 131:=⟨⟨_,underlying131,rfl⟩,by kernel_rfl⟩
theorem nO:oh prog 133 2:=⟨⟨_,underlying133,rfl⟩,by kernel_rfl⟩
theorem pF:∃i,prog.info? 133=some i/\i.zero=some (.agg #[bM,bM]):=⟨_,rfl,rfl⟩
theorem rW:mM prog 136:=⟨⟨_,underlying136,rfl⟩,by kernel_rfl⟩
theorem wE:∃i,prog.info? 136=some i/\i.zero=some (.nilFunc):=⟨_,rfl,rfl⟩
theorem qe:mM prog 158:=⟨⟨_,underlying158,rfl⟩,by kernel_rfl⟩
theorem tN:∃i,prog.info? 158=some i/\i.zero=some (.nilFunc):=⟨_,rfl,rfl⟩
theorem jK:mM prog 161:=⟨⟨_,underlying161,rfl⟩,by kernel_rfl⟩
theorem um:∃i,prog.info? 161=some i/\i.zero=some (.nilFunc):=⟨_,rfl,rfl⟩
theorem jg:oh prog 168 2:=⟨⟨_,underlying168,rfl⟩,by kernel_rfl⟩
theorem ld:∃i,prog.info? 168=some i/\i.zero=some (.agg #[.string ⟨#[]⟩,.nilFunc]):=⟨_,rfl,rfl⟩
theorem sS:∃i,prog.info? 174=some i/\i.zero=some (.agg #[bM,bM]):=⟨_,rfl,rfl⟩
theorem fo:oh prog 175 6:=⟨⟨_,underlying175,rfl⟩,by kernel_rfl⟩
theorem gZ:∃i,prog.info? 175=some i/\i.zero=some (.agg #[bM,.int .i64 0,.int .i64 0,.int .i64 0,bM,bM]):=⟨_,rfl,rfl⟩
theorem kq:∃i,prog.info? 176=some i/\i.zero=some (.agg #[bM,.int .i64 0,.int .i64 0,.int .i64 0,bM,bM,bM,.int .i64 0,.int .i64 0,.int .i64 0,bM,bM]):=⟨_,rfl,rfl⟩
theorem sU:∃i,prog.info? 219=some i/\i.zero=some bM:=⟨_,rfl,rfl⟩
theorem pG:∃i,prog.info? 231=some i/\i.zero=some (.agg #[.int .i64 0,.int .i64 0]):=⟨_,rfl,rfl⟩
theorem mQ:oh prog 253 5:=⟨⟨_,underlying253,rfl⟩,by kernel_rfl⟩
theorem mo:∃i,prog.info? 253=some i/\i.zero=some (.agg #[.nilFunc,.nilFunc,.nilFunc,.nilFunc,.nilFunc]):=⟨_,rfl,rfl⟩
theorem kz:oh prog 273 4:=⟨⟨_,underlying273,rfl⟩,by kernel_rfl⟩
theorem lG:∃i,prog.info? 273=some i/\i.zero=some (.agg #[.int .i64 0,.int .i64 0,.int .i64 0,.int .i64 0]):=⟨_,rfl,rfl⟩
theorem qO:mM prog 297:=⟨⟨_,underlying297,rfl⟩,by kernel_rfl⟩
theorem jW:mM prog 300:=⟨⟨_,underlying300,rfl⟩,by kernel_rfl⟩
theorem mixed:prog.follows .mixedOrders=true:=by kernel_rfl
set_option maxRecDepth 100000
theorem lW:(prog.info? 61).map (fun i=>(i.zero,i.size,i.bytes))=some (some (.agg #[.int .i64 0,.int .i64 0]),2,16):=by kernel_rfl
theorem dK:(prog.info? 116).map (fun i=>(i.zero,i.size,i.bytes))=some (some (.agg #[.int .i64 0,.int .i64 0,.int .i64 0,.int .i64 0,.int .i64 0]),5,40):=by kernel_rfl
theorem iv:(prog.info? 3).map (fun i=>(i.zero,i.size,i.bytes))=some (some (.int .i64 0),1,8):=by kernel_rfl
theorem dP:(prog.info? 52).map (fun i=>(i.zero,i.size,i.bytes))=some (some (.agg #[.bool false,bM]),2,32):=by kernel_rfl
theorem kD:(prog.info? 5).map (fun i=>(i.zero,i.size,i.bytes))=some (some (.int .u8 0),1,1):=by kernel_rfl
theorem vO:(prog.info? 133).map (fun i=>(i.zero,i.size,i.bytes))=some (some (.agg #[bM,bM]),2,48):=by kernel_rfl
theorem iV:(prog.info? 43).map (fun i=>(i.zero,i.size,i.bytes))=some (some bM,1,24):=by kernel_rfl
theorem qQ:(prog.info? 4).map (fun i=>(i.zero,i.size,i.bytes))=some (some (.bool false),1,1):=by kernel_rfl
end Go.Proofs.YtgopcdagnicekaaGreatDoor
