/- Texts of the proof, put together: Ty. -/
import Derived.Test.YtiogeggilnhajaaGreatDoorProg
import Derived.Test.YtiogeggilnhajaaGreatDoorBb
set_option maxRecDepth 100000
namespace Go.Proofs
open Go Go.Pl Tryz
@[go_sem] theorem TT:bC prog 2 = .int .i64:=by kernel_rfl
@[go_sem] theorem Bq:aF prog 2 = 1:=by kernel_rfl
@[go_sem] theorem FP:oF prog 2 = 8:=by kernel_rfl
@[go_sem] theorem aeu:dn prog 2 = false:=by kernel_rfl
@[go_sem] theorem aev:cY prog 2 = true:=by kernel_rfl
@[go_sem] theorem tR:aV prog 2 = some (.int .i64 0):=by kernel_rfl
@[go_sem] theorem aa7:bC prog 3 = .int .i64:=by kernel_rfl
@[go_sem] theorem FQ:aF prog 3 = 1:=by kernel_rfl
@[go_sem] theorem TU:oF prog 3 = 8:=by kernel_rfl
@[go_sem] theorem aew:dn prog 3 = false:=by kernel_rfl
@[go_sem] theorem aex:cY prog 3 = true:=by kernel_rfl
@[go_sem] theorem FR:aV prog 3 = some (.int .i64 0):=by kernel_rfl
@[go_sem] theorem aa8:bC prog 4 = .bool:=by kernel_rfl
@[go_sem] theorem aa9:aF prog 4 = 1:=by kernel_rfl
@[go_sem] theorem aey:dn prog 4 = false:=by kernel_rfl
@[go_sem] theorem aez:cY prog 4 = true:=by kernel_rfl
@[go_sem] theorem afy:bC prog 5 = .int .u8:=by kernel_rfl
@[go_sem] theorem TV:aF prog 5 = 1:=by kernel_rfl
@[go_sem] theorem TW:oF prog 5 = 1:=by kernel_rfl
@[go_sem] theorem ae0:cY prog 5 = true:=by kernel_rfl
@[go_sem] theorem FT:aV prog 5 = some (.int .u8 0):=by kernel_rfl
@[go_sem] theorem TX:bC prog 9 = .str:=by kernel_rfl
@[go_sem] theorem afz:aF prog 9 = 1:=by kernel_rfl
@[go_sem] theorem ae1:dn prog 9 = false:=by kernel_rfl
@[go_sem] theorem ae2:cY prog 9 = true:=by kernel_rfl
@[go_sem] theorem FU:bC prog 22 = .slice 111:=by kernel_rfl
@[go_sem] theorem TY:aF prog 22 = 1:=by kernel_rfl
@[go_sem] theorem aba:dn prog 22 = false:=by kernel_rfl
@[go_sem] theorem abb:cY prog 22 = true:=by kernel_rfl
@[go_sem] theorem r9:bC prog 23 = .slice 69:=by kernel_rfl
@[go_sem] theorem TZ:aF prog 23 = 1:=by kernel_rfl
@[go_sem] theorem abc:dn prog 23 = false:=by kernel_rfl
@[go_sem] theorem abd:cY prog 23 = true:=by kernel_rfl
@[go_sem] theorem FV:bC prog 25 = .sW:=by kernel_rfl
@[go_sem] theorem Ua:aF prog 25 = 3:=by kernel_rfl
@[go_sem] theorem NA:dn prog 25 = true:=by kernel_rfl
@[go_sem] theorem abe:cY prog 25 = true:=by kernel_rfl
@[go_sem] theorem YC:aV prog 25 = some (.agg #[.slice none 0 0,.int .i64 0,.slice none 0 0]):=by kernel_rfl
@[go_sem] theorem ae3:dG prog 25 = true:=by kernel_rfl
@[go_sem] theorem YD:aT prog 25 0 = some (0,1):=by kernel_rfl
@[go_sem] theorem Js:cZ prog 25 0 = some (0,22):=by kernel_rfl
@[go_sem] theorem YE:aT prog 25 1 = some (1,1):=by kernel_rfl
@[go_sem] theorem Jt:cZ prog 25 1 = some (1,3):=by kernel_rfl
@[go_sem] theorem YG:aT prog 25 2 = some (2,1):=by kernel_rfl
@[go_sem] theorem Ju:cZ prog 25 2 = some (2,23):=by kernel_rfl
@[go_sem] theorem vR:bC prog 31 = .slice 66:=by kernel_rfl
@[go_sem] theorem ae4:aF prog 31 = 1:=by kernel_rfl
@[go_sem] theorem abf:dn prog 31 = false:=by kernel_rfl
@[go_sem] theorem abg:cY prog 31 = true:=by kernel_rfl
@[go_sem] theorem Ub:bC prog 36 = .slice 77:=by kernel_rfl
@[go_sem] theorem L1:bC prog 55 = .slice 154:=by kernel_rfl
@[go_sem] theorem ae5:aF prog 55 = 1:=by kernel_rfl
@[go_sem] theorem abh:dn prog 55 = false:=by kernel_rfl
@[go_sem] theorem abi:cY prog 55 = true:=by kernel_rfl
@[go_sem] theorem ae6:aF prog 57 = 3:=by kernel_rfl
@[go_sem] theorem abj:dn prog 57 = true:=by kernel_rfl
@[go_sem] theorem abk:cY prog 57 = true:=by kernel_rfl
@[go_sem] theorem YH:aV prog 57 = some (.agg #[.int .i64 0,.bool false,.slice none 0 0]):=by kernel_rfl
@[go_sem] theorem ae7:dG prog 57 = true:=by kernel_rfl
@[go_sem] theorem YI:cZ prog 57 2 = some (2,55):=by kernel_rfl
@[go_sem] theorem mS:bC prog 60 = .slice 2:=by kernel_rfl
@[go_sem] theorem ae8:aF prog 60 = 1:=by kernel_rfl
@[go_sem] theorem abl:dn prog 60 = false:=by kernel_rfl
@[go_sem] theorem abm:cY prog 60 = true:=by kernel_rfl
@[go_sem] theorem L2:aF prog 66 = 2:=by kernel_rfl
@[go_sem] theorem L3:oF prog 66 = 16:=by kernel_rfl
@[go_sem] theorem abn:dn prog 66 = true:=by kernel_rfl
@[go_sem] theorem abo:cY prog 66 = true:=by kernel_rfl
@[go_sem] theorem Cw:aV prog 66 = some (.agg #[.int .i64 0,.int .i64 0]):=by kernel_rfl
@[go_sem] theorem ae9:dG prog 66 = true:=by kernel_rfl
@[go_sem] theorem YJ:aT prog 66 0 = some (0,1):=by kernel_rfl
@[go_sem] theorem YK:cZ prog 66 0 = some (0,3):=by kernel_rfl
@[go_sem] theorem YL:aT prog 66 1 = some (1,1):=by kernel_rfl
@[go_sem] theorem YM:cZ prog 66 1 = some (1,3):=by kernel_rfl
@[go_sem] theorem abp:wD prog 66 = true:=by kernel_rfl
@[go_sem] theorem Uc:jL prog 66 = [.int .i64,.int .i64]:=by kernel_rfl
@[go_sem] theorem rA:bC prog 69 = .sW:=by kernel_rfl
@[go_sem] theorem qa:aF prog 69 = 8:=by kernel_rfl
@[go_sem] theorem tS:oF prog 69 = 64:=by kernel_rfl
@[go_sem] theorem NB:dn prog 69 = true:=by kernel_rfl
@[go_sem] theorem abq:cY prog 69 = true:=by kernel_rfl
@[go_sem] theorem lD:aV prog 69 = some (.agg #[.int .i64 0,.int .i64 0,.int .i64 0,.int .i64 0,.int .i64 0,.int .i64 0,.int .i64 0,.bool false]):=by kernel_rfl
@[go_sem] theorem afa:dG prog 69 = true:=by kernel_rfl
@[go_sem] theorem YN:aT prog 69 0 = some (0,1):=by kernel_rfl
@[go_sem] theorem Jv:cZ prog 69 0 = some (0,3):=by kernel_rfl
@[go_sem] theorem Jw:cZ prog 69 1 = some (1,3):=by kernel_rfl
@[go_sem] theorem YO:aT prog 69 2 = some (2,1):=by kernel_rfl
@[go_sem] theorem Jx:cZ prog 69 2 = some (2,2):=by kernel_rfl
@[go_sem] theorem YP:aT prog 69 3 = some (3,1):=by kernel_rfl
@[go_sem] theorem Jy:cZ prog 69 3 = some (3,2):=by kernel_rfl
@[go_sem] theorem YQ:aT prog 69 4 = some (4,1):=by kernel_rfl
@[go_sem] theorem Jz:cZ prog 69 4 = some (4,2):=by kernel_rfl
@[go_sem] theorem YR:aT prog 69 5 = some (5,1):=by kernel_rfl
@[go_sem] theorem J0:cZ prog 69 5 = some (5,2):=by kernel_rfl
@[go_sem] theorem YS:aT prog 69 6 = some (6,1):=by kernel_rfl
@[go_sem] theorem J1:cZ prog 69 6 = some (6,2):=by kernel_rfl
@[go_sem] theorem YT:aT prog 69 7 = some (7,1):=by kernel_rfl
@[go_sem] theorem J2:cZ prog 69 7 = some (7,4):=by kernel_rfl
@[go_sem] theorem abr:wD prog 69 = true:=by kernel_rfl
@[go_sem] theorem Ud:jL prog 69 = [.int .i64,.int .i64,.int .i64,.int .i64,.int .i64,.int .i64,.int .i64,.bool]:=by kernel_rfl
@[go_sem] theorem Ue:aF prog 77 = 7:=by kernel_rfl
@[go_sem] theorem Uf:oF prog 77 = 56:=by kernel_rfl
@[go_sem] theorem abt:dn prog 77 = true:=by kernel_rfl
@[go_sem] theorem abu:cY prog 77 = true:=by kernel_rfl
@[go_sem] theorem J3:aV prog 77 = some (.agg #[.int .i64 0,.int .i64 0,.int .i64 0,.int .i64 0,.int .i64 0,.int .i64 0,.int .i64 0]):=by kernel_rfl
@[go_sem] theorem afb:dG prog 77 = true:=by kernel_rfl
@[go_sem] theorem YU:aT prog 77 0 = some (0,1):=by kernel_rfl
@[go_sem] theorem YV:aT prog 77 1 = some (1,1):=by kernel_rfl
@[go_sem] theorem YW:cZ prog 77 1 = some (1,3):=by kernel_rfl
@[go_sem] theorem YX:aT prog 77 2 = some (2,1):=by kernel_rfl
@[go_sem] theorem YY:cZ prog 77 2 = some (2,3):=by kernel_rfl
@[go_sem] theorem YZ:aT prog 77 3 = some (3,1):=by kernel_rfl
@[go_sem] theorem Za:cZ prog 77 3 = some (3,2):=by kernel_rfl
@[go_sem] theorem Zb:aT prog 77 4 = some (4,1):=by kernel_rfl
@[go_sem] theorem Zc:cZ prog 77 4 = some (4,2):=by kernel_rfl
@[go_sem] theorem Zd:aT prog 77 5 = some (5,1):=by kernel_rfl
@[go_sem] theorem Ze:cZ prog 77 5 = some (5,2):=by kernel_rfl
@[go_sem] theorem Zf:aT prog 77 6 = some (6,1):=by kernel_rfl
@[go_sem] theorem Zg:cZ prog 77 6 = some (6,2):=by kernel_rfl
@[go_sem] theorem abv:wD prog 77 = true:=by kernel_rfl
@[go_sem] theorem Ug:jL prog 77 = [.int .i64,.int .i64,.int .i64,.int .i64,.int .i64,.int .i64,.int .i64]:=by kernel_rfl
@[go_sem] theorem afc:bC prog 80 = .slice 86:=by kernel_rfl
@[go_sem] theorem afd:aF prog 83 = 6:=by kernel_rfl
@[go_sem] theorem abw:dn prog 83 = true:=by kernel_rfl
@[go_sem] theorem abx:cY prog 83 = true:=by kernel_rfl
@[go_sem] theorem Zh:aV prog 83 = some (.agg #[.bool false,.bool false,.bool false,.bool false,.int .i64 0,.int .i64 0]):=by kernel_rfl
@[go_sem] theorem afe:dG prog 83 = true:=by kernel_rfl
@[go_sem] theorem Zi:aT prog 83 0 = some (0,1):=by kernel_rfl
@[go_sem] theorem Zj:cZ prog 83 0 = some (0,4):=by kernel_rfl
@[go_sem] theorem Zk:aT prog 83 1 = some (1,1):=by kernel_rfl
@[go_sem] theorem Zl:cZ prog 83 1 = some (1,4):=by kernel_rfl
@[go_sem] theorem Zm:aT prog 83 2 = some (2,1):=by kernel_rfl
@[go_sem] theorem Zn:cZ prog 83 2 = some (2,4):=by kernel_rfl
@[go_sem] theorem Zo:aT prog 83 3 = some (3,1):=by kernel_rfl
@[go_sem] theorem Zp:cZ prog 83 3 = some (3,4):=by kernel_rfl
@[go_sem] theorem Zq:aT prog 83 4 = some (4,1):=by kernel_rfl
@[go_sem] theorem Zr:cZ prog 83 4 = some (4,2):=by kernel_rfl
@[go_sem] theorem Zs:aT prog 83 5 = some (5,1):=by kernel_rfl
@[go_sem] theorem Zt:cZ prog 83 5 = some (5,2):=by kernel_rfl
@[go_sem] theorem aff:aF prog 84 = 1:=by kernel_rfl
@[go_sem] theorem aby:dn prog 84 = false:=by kernel_rfl
@[go_sem] theorem abz:cY prog 84 = true:=by kernel_rfl
@[go_sem] theorem afg:aF prog 86 = 7:=by kernel_rfl
@[go_sem] theorem ab6:dn prog 86 = true:=by kernel_rfl
@[go_sem] theorem ab7:cY prog 86 = true:=by kernel_rfl
@[go_sem] theorem Zu:aV prog 86 = some (.agg #[.bool false,.bool false,.bool false,.bool false,.int .i64 0,.int .i64 0,.nilFunc]):=by kernel_rfl
@[go_sem] theorem afh:dG prog 86 = true:=by kernel_rfl
@[go_sem] theorem Zv:aT prog 86 0 = some (0,6):=by kernel_rfl
@[go_sem] theorem Zw:cZ prog 86 0 = some (0,83):=by kernel_rfl
@[go_sem] theorem Zx:aT prog 86 1 = some (6,1):=by kernel_rfl
@[go_sem] theorem Zy:cZ prog 86 1 = some (6,84):=by kernel_rfl
@[go_sem] theorem afi:bC prog 88 = .slice 194:=by kernel_rfl
@[go_sem] theorem afj:aF prog 88 = 1:=by kernel_rfl
@[go_sem] theorem ab8:dn prog 88 = false:=by kernel_rfl
@[go_sem] theorem ab9:cY prog 88 = true:=by kernel_rfl
@[go_sem] theorem afk:bC prog 89 = .map 2 106:=by kernel_rfl
@[go_sem] theorem afl:aF prog 89 = 1:=by kernel_rfl
@[go_sem] theorem aca:dn prog 89 = false:=by kernel_rfl
@[go_sem] theorem acb:cY prog 89 = true:=by kernel_rfl
@[go_sem] theorem afm:bC prog 90 = .map 2 188:=by kernel_rfl
@[go_sem] theorem afn:aF prog 90 = 1:=by kernel_rfl
@[go_sem] theorem acd:dn prog 90 = false:=by kernel_rfl
@[go_sem] theorem ace:cY prog 90 = true:=by kernel_rfl
@[go_sem] theorem afo:bC prog 91 = .map 2 197:=by kernel_rfl
@[go_sem] theorem afp:aF prog 91 = 1:=by kernel_rfl
@[go_sem] theorem acf:dn prog 91 = false:=by kernel_rfl
@[go_sem] theorem acg:cY prog 91 = true:=by kernel_rfl
@[go_sem] theorem afq:bC prog 92 = .map 2 3:=by kernel_rfl
@[go_sem] theorem afr:aF prog 92 = 1:=by kernel_rfl
@[go_sem] theorem ach:dn prog 92 = false:=by kernel_rfl
@[go_sem] theorem aci:cY prog 92 = true:=by kernel_rfl
@[go_sem] theorem afs:aF prog 94 = 13:=by kernel_rfl
@[go_sem] theorem acj:cY prog 94 = true:=by kernel_rfl
@[go_sem] theorem Zz:aV prog 94 = some (.agg #[.slice none 0 0,.int .i64 0,.slice none 0 0,.int .i64 0,.int .i64 0,.slice none 0 0,.map none,.slice none 0 0,.map none,.map none,.map none,.bool false,.slice none 0 0]):=by kernel_rfl
@[go_sem] theorem aft:dG prog 94 = true:=by kernel_rfl
@[go_sem] theorem Z0:aT prog 94 0 = some (0,3):=by kernel_rfl
@[go_sem] theorem Z1:cZ prog 94 0 = some (0,25):=by kernel_rfl
@[go_sem] theorem Z2:cZ prog 94 1 = some (3,2):=by kernel_rfl
@[go_sem] theorem Z3:cZ prog 94 2 = some (4,3):=by kernel_rfl
@[go_sem] theorem Z4:aT prog 94 3 = some (5,1):=by kernel_rfl
@[go_sem] theorem Z5:cZ prog 94 3 = some (5,88):=by kernel_rfl
@[go_sem] theorem Z6:aT prog 94 4 = some (6,1):=by kernel_rfl
@[go_sem] theorem Z7:cZ prog 94 4 = some (6,89):=by kernel_rfl
@[go_sem] theorem Z8:cZ prog 94 5 = some (7,60):=by kernel_rfl
@[go_sem] theorem Z9:aT prog 94 6 = some (8,1):=by kernel_rfl
@[go_sem] theorem ZA:cZ prog 94 6 = some (8,90):=by kernel_rfl
@[go_sem] theorem ZB:aT prog 94 7 = some (9,1):=by kernel_rfl
@[go_sem] theorem ZC:cZ prog 94 7 = some (9,91):=by kernel_rfl
@[go_sem] theorem ZD:aT prog 94 8 = some (10,1):=by kernel_rfl
@[go_sem] theorem ZE:cZ prog 94 8 = some (10,92):=by kernel_rfl
@[go_sem] theorem ZF:cZ prog 94 9 = some (11,4):=by kernel_rfl
@[go_sem] theorem Uh:cZ prog 94 10 = some (12,31):=by kernel_rfl
@[go_sem] theorem afu:aF prog 95 = 1:=by kernel_rfl
@[go_sem] theorem ack:dn prog 95 = false:=by kernel_rfl
@[go_sem] theorem acm:cY prog 95 = true:=by kernel_rfl
@[go_sem] theorem afv:bC prog 99 = .slice 209:=by kernel_rfl
@[go_sem] theorem afw:aF prog 99 = 1:=by kernel_rfl
@[go_sem] theorem acn:dn prog 99 = false:=by kernel_rfl
@[go_sem] theorem aco:cY prog 99 = true:=by kernel_rfl
@[go_sem] theorem xA:bC prog 100 = .slice 108:=by kernel_rfl
@[go_sem] theorem acp:aF prog 100 = 1:=by kernel_rfl
@[go_sem] theorem ZG:dn prog 100 = false:=by kernel_rfl
@[go_sem] theorem ZH:cY prog 100 = true:=by kernel_rfl
@[go_sem] theorem FW:bC prog 101 = .slice 205:=by kernel_rfl
@[go_sem] theorem acq:aF prog 101 = 1:=by kernel_rfl
@[go_sem] theorem ZI:dn prog 101 = false:=by kernel_rfl
@[go_sem] theorem ZJ:cY prog 101 = true:=by kernel_rfl
@[go_sem] theorem acr:aF prog 103 = 10:=by kernel_rfl
@[go_sem] theorem ZK:cY prog 103 = true:=by kernel_rfl
@[go_sem] theorem Ui:aV prog 103 = some (.agg #[.slice none 0 0,.int .i64 0,.slice none 0 0,.int .i64 0,.slice none 0 0,.slice none 0 0,.slice none 0 0,.bool false,.int .i64 0,.slice none 0 0]):=by kernel_rfl
@[go_sem] theorem acs:dG prog 103 = true:=by kernel_rfl
@[go_sem] theorem Uj:aT prog 103 0 = some (0,3):=by kernel_rfl
@[go_sem] theorem Uk:cZ prog 103 0 = some (0,25):=by kernel_rfl
@[go_sem] theorem Ul:cZ prog 103 1 = some (3,2):=by kernel_rfl
@[go_sem] theorem Um:aT prog 103 2 = some (4,1):=by kernel_rfl
@[go_sem] theorem Un:cZ prog 103 2 = some (4,99):=by kernel_rfl
@[go_sem] theorem Uo:cZ prog 103 3 = some (5,100):=by kernel_rfl
@[go_sem] theorem Up:cZ prog 103 4 = some (6,101):=by kernel_rfl
@[go_sem] theorem Uq:cZ prog 103 5 = some (7,4):=by kernel_rfl
@[go_sem] theorem Ur:cZ prog 103 6 = some (8,3):=by kernel_rfl
@[go_sem] theorem Us:cZ prog 103 7 = some (9,31):=by kernel_rfl
@[go_sem] theorem acu:aF prog 105 = 10:=by kernel_rfl
@[go_sem] theorem ZL:cY prog 105 = true:=by kernel_rfl
@[go_sem] theorem Ut:aV prog 105 = some (.agg #[.int .i64 0,.int .i64 0,.int .i64 0,.int .i64 0,.int .i64 0,.int .i64 0,.int .i64 0,.int .i64 0,.int .i64 0,.int .i64 0]):=by kernel_rfl
@[go_sem] theorem acv:dG prog 105 = true:=by kernel_rfl
@[go_sem] theorem Uu:aT prog 105 0 = some (0,7):=by kernel_rfl
@[go_sem] theorem Uv:cZ prog 105 0 = some (0,77):=by kernel_rfl
@[go_sem] theorem Uw:aT prog 105 1 = some (7,1):=by kernel_rfl
@[go_sem] theorem Ux:cZ prog 105 1 = some (7,3):=by kernel_rfl
@[go_sem] theorem Uy:cZ prog 105 2 = some (8,2):=by kernel_rfl
@[go_sem] theorem Uz:cZ prog 105 3 = some (9,2):=by kernel_rfl
@[go_sem] theorem acw:bC prog 106 = .ptr 105:=by kernel_rfl
@[go_sem] theorem U0:aV prog 106 = some (.pointer none):=by kernel_rfl
@[go_sem] theorem FX:aF prog 108 = 10:=by kernel_rfl
@[go_sem] theorem FY:oF prog 108 = 80:=by kernel_rfl
@[go_sem] theorem ZM:dn prog 108 = true:=by kernel_rfl
@[go_sem] theorem ZN:cY prog 108 = true:=by kernel_rfl
@[go_sem] theorem zA:aV prog 108 = some (.agg #[.int .i64 0,.int .i64 0,.int .i64 0,.int .i64 0,.int .i64 0,.int .i64 0,.int .i64 0,.int .i64 0,.int .i64 0,.int .i64 0]):=by kernel_rfl
@[go_sem] theorem acx:dG prog 108 = true:=by kernel_rfl
@[go_sem] theorem U1:aT prog 108 0 = some (0,1):=by kernel_rfl
@[go_sem] theorem U2:cZ prog 108 0 = some (0,2):=by kernel_rfl
@[go_sem] theorem U3:aT prog 108 1 = some (1,1):=by kernel_rfl
@[go_sem] theorem U4:cZ prog 108 1 = some (1,3):=by kernel_rfl
@[go_sem] theorem U5:aT prog 108 2 = some (2,1):=by kernel_rfl
@[go_sem] theorem U6:cZ prog 108 2 = some (2,3):=by kernel_rfl
@[go_sem] theorem U7:cZ prog 108 3 = some (3,2):=by kernel_rfl
@[go_sem] theorem U8:aT prog 108 4 = some (4,1):=by kernel_rfl
@[go_sem] theorem U9:cZ prog 108 4 = some (4,2):=by kernel_rfl
@[go_sem] theorem UA:cZ prog 108 5 = some (5,2):=by kernel_rfl
@[go_sem] theorem UB:cZ prog 108 6 = some (6,2):=by kernel_rfl
@[go_sem] theorem UC:cZ prog 108 7 = some (7,3):=by kernel_rfl
@[go_sem] theorem UD:cZ prog 108 8 = some (8,2):=by kernel_rfl
@[go_sem] theorem UE:cZ prog 108 9 = some (9,2):=by kernel_rfl
@[go_sem] theorem xB:bC prog 111 = .sW:=by kernel_rfl
@[go_sem] theorem xC:aF prog 111 = 4:=by kernel_rfl
@[go_sem] theorem FZ:oF prog 111 = 32:=by kernel_rfl
@[go_sem] theorem J4:dn prog 111 = true:=by kernel_rfl
@[go_sem] theorem ZO:cY prog 111 = true:=by kernel_rfl
@[go_sem] theorem zB:aV prog 111 = some (.agg #[.int .i64 0,.int .i64 0,.int .i64 0,.int .i64 0]):=by kernel_rfl
@[go_sem] theorem acy:dG prog 111 = true:=by kernel_rfl
@[go_sem] theorem UF:aT prog 111 0 = some (0,1):=by kernel_rfl
@[go_sem] theorem Ga:cZ prog 111 0 = some (0,3):=by kernel_rfl
@[go_sem] theorem UG:aT prog 111 1 = some (1,1):=by kernel_rfl
@[go_sem] theorem Gb:cZ prog 111 1 = some (1,3):=by kernel_rfl
@[go_sem] theorem UH:aT prog 111 2 = some (2,1):=by kernel_rfl
@[go_sem] theorem Gc:cZ prog 111 2 = some (2,2):=by kernel_rfl
@[go_sem] theorem UI:aT prog 111 3 = some (3,1):=by kernel_rfl
@[go_sem] theorem Ge:cZ prog 111 3 = some (3,2):=by kernel_rfl
@[go_sem] theorem ZP:wD prog 111 = true:=by kernel_rfl
@[go_sem] theorem Rj:jL prog 111 = [.int .i64,.int .i64,.int .i64,.int .i64]:=by kernel_rfl
@[go_sem] theorem Gf:bC prog 113 = .slice 3:=by kernel_rfl
@[go_sem] theorem Gg:bC prog 120 = .slice 5:=by kernel_rfl
@[go_sem] theorem acz:aF prog 120 = 1:=by kernel_rfl
@[go_sem] theorem ZQ:dn prog 120 = false:=by kernel_rfl
@[go_sem] theorem ZR:cY prog 120 = true:=by kernel_rfl
@[go_sem] theorem ac0:aF prog 122 = 2:=by kernel_rfl
@[go_sem] theorem ZS:cY prog 122 = true:=by kernel_rfl
@[go_sem] theorem UJ:aV prog 122 = some (.agg #[.pointer none,.slice none 0 0]):=by kernel_rfl
@[go_sem] theorem UK:cZ prog 122 1 = some (1,120):=by kernel_rfl
@[go_sem] theorem ac1:bC prog 123 = .slice 9:=by kernel_rfl
@[go_sem] theorem Gh:aF prog 154 = 11:=by kernel_rfl
@[go_sem] theorem Gi:oF prog 154 = 152:=by kernel_rfl
@[go_sem] theorem ZT:cY prog 154 = true:=by kernel_rfl
@[go_sem] theorem zC:aV prog 154 = some (.agg #[.int .i64 0,.int .i64 0,.int .i64 0,.int .i64 0,.slice none 0 0,.slice none 0 0,.slice none 0 0,.slice none 0 0,.bool false,.int .i64 0,.int .i64 0]):=by kernel_rfl
@[go_sem] theorem ac2:dG prog 154 = true:=by kernel_rfl
@[go_sem] theorem UL:aT prog 154 0 = some (0,4):=by kernel_rfl
@[go_sem] theorem UM:aT prog 154 5 = some (8,1):=by kernel_rfl
@[go_sem] theorem ac3:bC prog 188 = .ptr 190:=by kernel_rfl
@[go_sem] theorem UN:aV prog 188 = some (.pointer none):=by kernel_rfl
@[go_sem] theorem ac4:aF prog 190 = 5:=by kernel_rfl
@[go_sem] theorem ZU:cY prog 190 = true:=by kernel_rfl
@[go_sem] theorem UO:aV prog 190 = some (.agg #[.bool false,.bool false,.int .i64 0,.int .i64 0,.int .i64 0]):=by kernel_rfl
@[go_sem] theorem ac5:dG prog 190 = true:=by kernel_rfl
@[go_sem] theorem UP:aT prog 190 0 = some (0,1):=by kernel_rfl
@[go_sem] theorem UQ:cZ prog 190 0 = some (0,4):=by kernel_rfl
@[go_sem] theorem UR:cZ prog 190 1 = some (1,4):=by kernel_rfl
@[go_sem] theorem US:cZ prog 190 2 = some (2,3):=by kernel_rfl
@[go_sem] theorem UT:aT prog 190 3 = some (3,1):=by kernel_rfl
@[go_sem] theorem UU:cZ prog 190 3 = some (3,3):=by kernel_rfl
@[go_sem] theorem UW:cZ prog 190 4 = some (4,3):=by kernel_rfl
@[go_sem] theorem ac6:aF prog 194 = 6:=by kernel_rfl
@[go_sem] theorem ac7:oF prog 194 = 64:=by kernel_rfl
@[go_sem] theorem ZV:dn prog 194 = true:=by kernel_rfl
@[go_sem] theorem ZW:cY prog 194 = true:=by kernel_rfl
@[go_sem] theorem UX:aV prog 194 = some (.agg #[.bool false,.int .i64 0,.int .i64 0,.int .i64 0,.int .i64 0,.slice none 0 0]):=by kernel_rfl
@[go_sem] theorem UY:cZ prog 194 0 = some (0,4):=by kernel_rfl
@[go_sem] theorem UZ:cZ prog 194 1 = some (1,3):=by kernel_rfl
@[go_sem] theorem Va:cZ prog 194 2 = some (2,2):=by kernel_rfl
@[go_sem] theorem Vb:cZ prog 194 3 = some (3,3):=by kernel_rfl
@[go_sem] theorem Vc:cZ prog 194 4 = some (4,3):=by kernel_rfl
@[go_sem] theorem Vd:cZ prog 194 5 = some (5,60):=by kernel_rfl
@[go_sem] theorem ac8:aF prog 197 = 3:=by kernel_rfl
@[go_sem] theorem ZX:dn prog 197 = true:=by kernel_rfl
@[go_sem] theorem ZY:cY prog 197 = true:=by kernel_rfl
@[go_sem] theorem Ve:aV prog 197 = some (.agg #[.bool false,.bool false,.bool false]):=by kernel_rfl
@[go_sem] theorem ac9:dG prog 197 = true:=by kernel_rfl
@[go_sem] theorem Vf:aT prog 197 0 = some (0,1):=by kernel_rfl
@[go_sem] theorem Vg:cZ prog 197 0 = some (0,4):=by kernel_rfl
@[go_sem] theorem Vh:aT prog 197 1 = some (1,1):=by kernel_rfl
@[go_sem] theorem Vi:cZ prog 197 1 = some (1,4):=by kernel_rfl
@[go_sem] theorem Vj:aT prog 197 2 = some (2,1):=by kernel_rfl
@[go_sem] theorem ZZ:wD prog 197 = true:=by kernel_rfl
@[go_sem] theorem Rk:jL prog 197 = [.bool,.bool,.bool]:=by kernel_rfl
@[go_sem] theorem ada:bC prog 202 = .ptr 205:=by kernel_rfl
@[go_sem] theorem NC:aF prog 205 = 6:=by kernel_rfl
@[go_sem] theorem ND:oF prog 205 = 48:=by kernel_rfl
@[go_sem] theorem aaa:cY prog 205 = true:=by kernel_rfl
@[go_sem] theorem Gj:aV prog 205 = some (.agg #[.int .i64 0,.bool false,.int .i64 0,.int .i64 0,.int .i64 0,.bool false]):=by kernel_rfl
@[go_sem] theorem adb:dG prog 205 = true:=by kernel_rfl
@[go_sem] theorem Vk:aT prog 205 0 = some (0,1):=by kernel_rfl
@[go_sem] theorem Vl:cZ prog 205 0 = some (0,2):=by kernel_rfl
@[go_sem] theorem Vm:aT prog 205 1 = some (1,1):=by kernel_rfl
@[go_sem] theorem Vn:cZ prog 205 1 = some (1,4):=by kernel_rfl
@[go_sem] theorem Vo:cZ prog 205 2 = some (2,3):=by kernel_rfl
@[go_sem] theorem Vp:cZ prog 205 3 = some (3,3):=by kernel_rfl
@[go_sem] theorem Vq:cZ prog 205 4 = some (4,3):=by kernel_rfl
@[go_sem] theorem Vr:cZ prog 205 5 = some (5,4):=by kernel_rfl
@[go_sem] theorem ade:bC prog 206 = .ptr 108:=by kernel_rfl
@[go_sem] theorem adf:aF prog 209 = 5:=by kernel_rfl
@[go_sem] theorem adg:oF prog 209 = 72:=by kernel_rfl
@[go_sem] theorem aab:cY prog 209 = true:=by kernel_rfl
@[go_sem] theorem Vs:aV prog 209 = some (.agg #[.bool false,.int .i64 0,.int .i64 0,.slice none 0 0,.slice none 0 0]):=by kernel_rfl
@[go_sem] theorem Vt:cZ prog 209 0 = some (0,4):=by kernel_rfl
@[go_sem] theorem Vu:cZ prog 209 1 = some (1,3):=by kernel_rfl
@[go_sem] theorem Vv:cZ prog 209 2 = some (2,2):=by kernel_rfl
@[go_sem] theorem Vw:cZ prog 209 3 = some (3,60):=by kernel_rfl
@[go_sem] theorem Vx:cZ prog 209 4 = some (4,60):=by kernel_rfl
@[go_sem] theorem adh:bC prog 213 = .int .u32:=by kernel_rfl
@[go_sem] theorem adi:bC prog 236 = .int .u64:=by kernel_rfl
@[go_sem] theorem adj:bC prog 255 = .int .u64:=by kernel_rfl
end Go.Proofs
